/-
  The walk over the law FnSpotOf: it answers true, whatever the code, and leaves all old memory alone.
-/
import Derived.Test.YtaifajhojhekjaaDoorDraw
import Derived.Test.YtaifajhojhekjaaDoorAlive
import Derived.Deep.RegionHeld3
namespace Go.Proofs.YtaifajhojhekjaaDoor
open Go.RowKit

/-- The spot with a number. -/
def spotTop (n : Int) : Bool := if n < 0 then false else n % 2 == 1
def spotPlace (n : Int) : Int := if n < 0 then 0 else n / 2
def spotV (n : Int) : Value := .agg #[.bool (spotTop n), .int .i64 (spotPlace n)]

theorem spotOf_spec (n : Int) (w : World) (hn : -9223372036854775808 ≤ n ∧ n ≤ 9223372036854775807) :
    Calls Tryd.prog 15 #[.int .i64 n] w fun e w' => e = .returned (spotV n) ∧ Below w.heap.size w w' := by
  obtain ⟨h1, h2⟩ := hn
  by_cases hneg : n < 0
  all_goals
    go_enter Tryd.func15, Tryd.ntmps15
    go_wp2
    go_returns
    exact ⟨by simp [spotV, spotTop, spotPlace, hneg] <;> omega, by go_grown⟩

theorem spotOf_impl (n : Int) (w : World) (hn : -9223372036854775808 ≤ n ∧ n ≤ 9223372036854775807) :
    Calls Tryd.prog 14 #[.int .i64 n] w fun e w' => e = .returned (spotV n) ∧ Below w.heap.size w w' := by
  obtain ⟨h1, h2⟩ := hn
  by_cases hneg : n < 0
  all_goals
    go_enter Tryd.func14, Tryd.ntmps14
    go_wp2
    go_returns
    exact ⟨by simp [spotV, spotTop, spotPlace, hneg] <;> omega, by go_grown⟩

/-- A number was drawn. -/
def SpotGot (w : World) (e : Ending) (w' : World) : Prop := ∃ z : Int, e = .returned (.int .i64 z) ∧ -2 ≤ z ∧ z ≤ 17 ∧ Below w.heap.size w w'
theorem drawSpotOf (v : Value) (n : Nat) (w : World) (h : BytesAt 0 w.heap.size w v n) : Calls Tryd.prog 13 #[v] w (SpotGot w) := by
  have HB := hide h
  clear h
  go_enter Tryd.func13, Tryd.ntmps13
  go_wp2_with fail
  refine (open_any v n _ HB.out).mono ?_
  rintro e w1 ⟨R, rfl, hR, hb1, hr1⟩
  go_wp2_with fail
  refine (pick_in R _ 20 _ hr1 (by omega) (by omega) (by omega)).mono ?_
  rintro e w2 ⟨x, rfl, p1, p2, ho, hr⟩
  have HF := hide (hb1.trans (ho.below hR hb1.size))
  clear ho hr hr1 hb1
  go_wp2_with fail
  go_ret
  exact ⟨_, rfl, by omega, by omega, HF.out⟩
theorem spot_same {k z : Int} (h0 : 0 ≤ k) (h1 : 0 ≤ z) : (spotTop k == spotTop z && spotPlace k == spotPlace z) = (k == z) := by
  unfold spotTop spotPlace
  rw [if_neg (by omega), if_neg (by omega), if_neg (by omega), if_neg (by omega)]
  rw [Bool.eq_iff_iff]
  simp only [Bool.and_eq_true, beq_iff_eq]
  constructor
  · rintro ⟨h2, h3⟩
    rw [Bool.eq_iff_iff] at h2
    simp only [beq_iff_eq] at h2
    omega
  · rintro rfl; exact ⟨rfl, rfl⟩
/-- A call that changes nothing old keeps two cells. -/
theorem held2 {f : FuncId} {args : Array Value} {r : Value} (hc : ∀ w, Calls Tryd.prog f args w fun e w' => e = .returned r ∧ Below w.heap.size w w') {w0 W : World} {B : Nat} {u v : Value}
    (h0 : W.cell? ⟨B, 0, none⟩ = some u) (h1 : W.cell? ⟨B, 1, none⟩ = some v) (h2 : B < W.heap.size) (h3 : Below w0.heap.size w0 W) :
    Calls Tryd.prog f args W fun e w' => e = .returned r ∧ (w'.cell? ⟨B, 0, none⟩ = some u ∧ w'.cell? ⟨B, 1, none⟩ = some v) ∧ B < w'.heap.size ∧ Below w0.heap.size w0 w' :=
  (hc W).mono fun e w' ⟨he, hb⟩ => ⟨he, ⟨by rw [hb.cell h2]; exact h0, by rw [hb.cell h2]; exact h1⟩, Nat.lt_of_lt_of_le h2 hb.size, Below.step h3 hb (Nat.le_refl _)⟩
set_option maxRecDepth 10000 in
set_option maxHeartbeats 800000 in
theorem law_SpotOf (v : Value) (n : Nat) (w : World) (h : BytesAt 0 w.heap.size w v n) :
    Calls Tryd.prog 3 #[v] w fun e w' => e = .returned (.bool true) ∧ Below w.heap.size w w' := by
  obtain ⟨ao, cap, rfl, hnc, hcap, -, -⟩ := id h
  have HB := hide h
  clear h
  by_cases hlong : 1048576 < n
  · go_enter Tryd.func3, Tryd.ntmps3
    go_wp2_with fail
    go_ret
    exact ⟨rfl, Below.refl _ _⟩
  · go_enter Tryd.func3, Tryd.ntmps3
    go_wp2_with fail
    refine (drawSpotOf _ n _ HB.out).mono ?_
    rintro e w1 ⟨z, rfl, hz1, hz2, hb1⟩
    obtain ⟨T, hT⟩ : ∃ T, spotTop z = T := ⟨_, rfl⟩
    obtain ⟨P, hP⟩ : ∃ P, spotPlace z = P := ⟨_, rfl⟩
    have hI := fun w => spotOf_impl z w (by omega)
    have hS := fun w => spotOf_spec z w (by omega)
    unfold spotV at hI hS
    rw [hT, hP] at hI hS
    have HI := hide hI
    have HS := hide hS
    have HT := hide hT
    have HP := hide hP
    clear hI hS hT hP
    have HB1 := hide hb1
    clear hb1
    go_wp2_with fail
    refine (HI.out _).mono ?_
    rintro e w2 ⟨rfl, hb2⟩
    have HB2 := hide (Below.step HB1.out hb2 (Nat.le_refl _))
    clear hb2
    go_wp2_with fail
    obtain ⟨wx, hwx⟩ : ∃ wx, wx = w2.alloc (Obj.cells #[Value.bool (T), Value.int IntKind.i64 P] 25) := ⟨_, rfl⟩
    rw [← hwx]
    have hbx : Below w.heap.size w wx := by rw [hwx]; exact HB2.out.alloc HB2.out.size _
    have hc0 : wx.cell? ⟨w2.heap.size, 0, none⟩ = some (.bool (T)) := by rw [hwx]; simp [go_sem]
    have hc1 : wx.cell? ⟨w2.heap.size, 1, none⟩ = some (.int .i64 P) := by rw [hwx]; simp [go_sem]
    have hlt : w2.heap.size < wx.heap.size := by rw [hwx]; simp
    clear hwx
    have hd0 : wx.drew.cell? ⟨w2.heap.size, 0, none⟩ = some (.bool T) := hc0
    have hd1 : wx.drew.cell? ⟨w2.heap.size, 1, none⟩ = some (.int .i64 P) := hc1
    have hdb : Below w.heap.size w wx.drew := hbx.drew
    have hdl : w2.heap.size < wx.drew.heap.size := hlt
    go_region_held3 (fun w' => (w'.cell? ⟨w2.heap.size, 0, none⟩ = some (.bool T) ∧ w'.cell? ⟨w2.heap.size, 1, none⟩ = some (.int .i64 P)) ∧ w2.heap.size < w'.heap.size ∧ Below w.heap.size w w') (first | (exact ⟨⟨hd0, hd1⟩, hdl, hdb⟩) | (exact ⟨⟨by assumption, by assumption⟩, by assumption, by assumption⟩)) (first | (go_at_call 15; refine (held2 HS.out (by assumption) (by assumption) (by assumption) (by assumption)).mono ?_; rintro e w' ⟨rfl, ⟨k0, k1⟩, k2, k3⟩))
    clear hd0 hd1 hdb hdl hc0 hc1 hbx hlt
    by_cases hz : z < 0
    · have hT0 : T = false := by rw [← HT.out, spotTop, if_pos hz]
      have hP0 : P = 0 := by rw [← HP.out, spotPlace, if_pos hz]
      subst hT0 hP0
      go_wp2_with fail
      refine (alive_any _).mono ?_
      rintro e w9 ⟨rfl, hb9⟩
      have HB9 := hide (Below.step k3 hb9 (Nat.le_refl _))
      clear hb9
      go_wp2_with fail
      go_ret
      exact ⟨rfl, HB9.out⟩
    · have hP0 : 0 ≤ P := by rw [← HP.out, spotPlace, if_neg hz]; omega
      have K0 := hide k0
      have K1 := hide k1
      have K2 := hide k2
      have K3 := hide k3
      clear k0 k1 k2 k3
      go_wp2_with fail
      go_loopw [5] (fun i wr => ∃ k : Nat, k ≤ 24 ∧ i = .int .i64 k ∧ wr.cell? ⟨w2.heap.size, 0, none⟩ = some (.bool T) ∧ wr.cell? ⟨w2.heap.size, 1, none⟩ = some (.int .i64 P) ∧ w2.heap.size < wr.heap.size ∧ Below w.heap.size w wr) (fun i _ => 24 - (intOf i).toNat)
      case atStart => exact ⟨0, by omega, rfl, K0.out, K1.out, K2.out, K3.out⟩
      case round =>
        obtain ⟨k, hk, rfl, hc0, hc1, hlt, hbx⟩ := hrel
        by_cases hlk : k < 24
        · have hI := fun w => spotOf_impl k w (by omega)
          unfold spotV at hI
          have hsame := spot_same (k := k) (z := z) (by omega) (by omega)
          rw [HT.out, HP.out] at hsame
          have HIK := hide hI
          have HSM := hide hsame
          obtain ⟨t, ht⟩ : ∃ t, spotTop k = t := ⟨_, rfl⟩
          obtain ⟨p, hp⟩ : ∃ p, spotPlace k = p := ⟨_, rfl⟩
          rw [ht, hp] at HIK HSM
          have hkI : (k : Int) < 24 := by omega
          have hd0 : wr.drew.cell? ⟨w2.heap.size, 0, none⟩ = some (.bool T) := hc0
          have hd1 : wr.drew.cell? ⟨w2.heap.size, 1, none⟩ = some (.int .i64 P) := hc1
          have hdb : Below w.heap.size w wr.drew := hbx.drew
          have hdl : w2.heap.size < wr.drew.heap.size := hlt
          clear hI hsame ht hp hc0 hc1 hbx hlt
          by_cases ht : t = T
          · subst ht
            by_cases hp : p = P
            · subst hp
              have hzB : ((k : Int) == z) = true := by rw [← HSM.out]; simp
              clear HSM
              go_wp2_with fail
              go_region_held3 (fun w' => (w'.cell? ⟨w2.heap.size, 0, none⟩ = some (.bool t) ∧ w'.cell? ⟨w2.heap.size, 1, none⟩ = some (.int .i64 p)) ∧ w2.heap.size < w'.heap.size ∧ Below w.heap.size w w') (first | (exact ⟨⟨hd0, hd1⟩, hdl, hdb⟩) | (exact ⟨⟨by assumption, by assumption⟩, by assumption, by assumption⟩)) (first | (go_at_call 14; refine (held2 HIK.out (by assumption) (by assumption) (by assumption) (by assumption)).mono ?_; rintro e w' ⟨rfl, ⟨k0, k1⟩, k2, k3⟩))
              clear hd0 hd1 hdb hdl
              go_wp2_with fail
              go_roundw
              case rel => exact ⟨k + 1, by omega, by go_num, k0, k1, k2, k3⟩
              case measure => simp [intOf]; omega
            · have hpB : (p == P) = false := by simpa using hp
              have hzB : ((k : Int) == z) = false := by rw [← HSM.out, hpB]; simp
              clear HSM
              go_wp2_with fail
              go_region_held3 (fun w' => (w'.cell? ⟨w2.heap.size, 0, none⟩ = some (.bool t) ∧ w'.cell? ⟨w2.heap.size, 1, none⟩ = some (.int .i64 P)) ∧ w2.heap.size < w'.heap.size ∧ Below w.heap.size w w') (first | (exact ⟨⟨hd0, hd1⟩, hdl, hdb⟩) | (exact ⟨⟨by assumption, by assumption⟩, by assumption, by assumption⟩)) (first | (go_at_call 14; refine (held2 HIK.out (by assumption) (by assumption) (by assumption) (by assumption)).mono ?_; rintro e w' ⟨rfl, ⟨k0, k1⟩, k2, k3⟩))
              clear hd0 hd1 hdb hdl
              go_wp2_with fail
              go_roundw
              case rel => exact ⟨k + 1, by omega, by go_num, k0, k1, k2, k3⟩
              case measure => simp [intOf]; omega
          · have hzB : ((k : Int) == z) = false := by rw [← HSM.out]; simp [ht]
            clear HSM
            cases t <;> cases T
            · exact absurd rfl ht
            · go_wp2_with fail
              go_region_held3 (fun w' => (w'.cell? ⟨w2.heap.size, 0, none⟩ = some (.bool true) ∧ w'.cell? ⟨w2.heap.size, 1, none⟩ = some (.int .i64 P)) ∧ w2.heap.size < w'.heap.size ∧ Below w.heap.size w w') (first | (exact ⟨⟨hd0, hd1⟩, hdl, hdb⟩) | (exact ⟨⟨by assumption, by assumption⟩, by assumption, by assumption⟩)) (first | (go_at_call 14; refine (held2 HIK.out (by assumption) (by assumption) (by assumption) (by assumption)).mono ?_; rintro e w' ⟨rfl, ⟨k0, k1⟩, k2, k3⟩))
              clear hd0 hd1 hdb hdl
              go_wp2_with fail
              go_roundw
              case rel => exact ⟨k + 1, by omega, by go_num, k0, k1, k2, k3⟩
              case measure => simp [intOf]; omega
            · go_wp2_with fail
              go_region_held3 (fun w' => (w'.cell? ⟨w2.heap.size, 0, none⟩ = some (.bool false) ∧ w'.cell? ⟨w2.heap.size, 1, none⟩ = some (.int .i64 P)) ∧ w2.heap.size < w'.heap.size ∧ Below w.heap.size w w') (first | (exact ⟨⟨hd0, hd1⟩, hdl, hdb⟩) | (exact ⟨⟨by assumption, by assumption⟩, by assumption, by assumption⟩)) (first | (go_at_call 14; refine (held2 HIK.out (by assumption) (by assumption) (by assumption) (by assumption)).mono ?_; rintro e w' ⟨rfl, ⟨k0, k1⟩, k2, k3⟩))
              clear hd0 hd1 hdb hdl
              go_wp2_with fail
              go_roundw
              case rel => exact ⟨k + 1, by omega, by go_num, k0, k1, k2, k3⟩
              case measure => simp [intOf]; omega
            · exact absurd rfl ht
        · have hB := hide hbx
          go_wp2_with fail
          go_ret
          exact ⟨by simp, hB.out⟩
end Go.Proofs.YtaifajhojhekjaaDoor
