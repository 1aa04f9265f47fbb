/-
  The draw l20Spoil: a text spoilt at one place.
-/
import Derived.Test.YtbafifilklfafaaDoorDrawS
import Derived.Test.YtbafifilklfafaaDoorTextE
import Derived.Deep.RegionWith
namespace Go.Proofs.YtbafifilklfafaaDoor
open Go.RowKit

def sixL : List Value := [.string ⟨#[]⟩, .string ⟨#[48]⟩, .string ⟨#[32]⟩, .string ⟨#[10]⟩, .string ⟨#[57]⟩, .string ⟨#[109, 101, 108, 116]⟩]
theorem six_at : ∀ j, j < 6 → ∃ z : ByteArray, sixL[j]? = some (.string z) ∧ z.size ≤ 4
  | 0, _ => ⟨_, rfl, by decide⟩
  | 1, _ => ⟨_, rfl, by decide⟩
  | 2, _ => ⟨_, rfl, by decide⟩
  | 3, _ => ⟨_, rfl, by decide⟩
  | 4, _ => ⟨_, rfl, by decide⟩
  | 5, _ => ⟨_, rfl, by decide⟩
  | n + 6, h => absurd h (by omega)
theorem six_cell (w : World) (j : Nat) (z : ByteArray) (h : sixL[j]? = some (.string z)) : (w.alloc (.cells #[.string ⟨#[]⟩, .string ⟨#[48]⟩, .string ⟨#[32]⟩, .string ⟨#[10]⟩, .string ⟨#[57]⟩, .string ⟨#[109, 101, 108, 116]⟩] 9)).cell? ⟨w.heap.size, j, none⟩ = some (.string z) := by
  have := lit_cells w sixL 9 j _ h
  rw [adds] at this
  exact this
def SpoilGot (R k : Nat) (s : ByteArray) (w : World) (e : Ending) (w' : World) : Prop :=
  ∃ t : ByteArray, e = .returned (.string t) ∧ t.size ≤ s.size + 10 ∧ Other R (R + 1) w w' ∧ Rd R (k + 2) w'

set_option maxRecDepth 10000 in
set_option maxHeartbeats 1600000 in
theorem spoil_any (R k : Nat) (s : ByteArray) (w : World) (h : Rd R k w) (hk : k ≤ 900000) (hs : s.size ≤ 100000) :
    Calls Tryd.prog 25 #[.pointer (some ⟨R, 0, none⟩), .string s] w (SpoilGot R k s w) := by
  have HR := hide h
  have hRl := h.lt
  clear h
  by_cases hz : s.size = 0
  · have hzB : ((s.size : Int) == 0) = true := by simp [hz]
    go_enter Tryd.func25, Tryd.ntmps25
    go_wp2_with fail
    go_ret
    exact ⟨⟨#[10]⟩, rfl, Nat.le_trans (show (⟨#[10]⟩ : ByteArray).size ≤ 10 by decide) (Nat.le_add_left _ _), Other.refl _ _ _, HR.out.mono (by omega)⟩
  have hzB : ((s.size : Int) == 0) = false := by rw [beq_eq_false_iff_ne]; omega
  go_enter Tryd.func25, Tryd.ntmps25
  go_wp2_with fail
  refine (pick_in R k (s.size : Int) w HR.out (by omega) (by omega) (by omega)).mono ?_
  rintro e w1 ⟨x, rfl, p1, p2, ho, hr1⟩
  obtain ⟨i, rfl⟩ : ∃ i : Nat, x = i := ⟨x.toNat, by omega⟩
  have T_1 := hide ho
  have hz1 := ho.size
  have hR1 := hr1.lt
  have hi0 : (0 : Int) ≤ (i : Int) := by omega
  have hi1 : (i : Int) ≤ (s.size : Int) := by omega
  have hi2 : ((i + 1 : Nat) : Int) ≤ (s.size : Int) := by omega
  have hi3 : (0 : Int) ≤ ((i + 1 : Nat) : Int) := by omega
  have hw : IntKind.i64.wrap ((i : Int) + 1) = ((i + 1 : Nat) : Int) := by rw [IntWalk.i64_in] <;> omega
  have HRD := hide (show Rd R (k + 1) w1.drew from hr1.drewN 1)
  have HRA := hide (show Rd R (k + 1) (w1.alloc (.cells #[.string ⟨#[]⟩, .string ⟨#[48]⟩, .string ⟨#[32]⟩, .string ⟨#[10]⟩, .string ⟨#[57]⟩, .string ⟨#[109, 101, 108, 116]⟩] 9)).drew from
    hr1.keep (B := w1.heap.size) (((Below.refl _ _).alloc (Nat.le_refl _) _).drew) hR1)
  have hA : (s.extract 0 i).size ≤ s.size := by rw [ByteArray.size_extract]; omega
  have hC : (s.extract (i + 1) s.size).size ≤ s.size := by rw [ByteArray.size_extract]; omega
  have hAC : (s.extract 0 i).size + (s.extract (i + 1) s.size).size ≤ s.size := by rw [ByteArray.size_extract, ByteArray.size_extract]; omega
  obtain ⟨A, hAe⟩ : ∃ A, s.extract 0 i = A := ⟨_, rfl⟩
  obtain ⟨C, hCe⟩ : ∃ C, s.extract (i + 1) s.size = C := ⟨_, rfl⟩
  rw [hAe] at hA hAC
  rw [hCe] at hC hAC
  have hS := fun (z : ByteArray) (h : z.size ≤ 4) => (show ¬ 9223372036854775807 < A.size + z.size by omega)
  have hS2 := fun (z : ByteArray) (h : z.size ≤ 4) => (show ¬ 9223372036854775807 < (A ++ z).size + C.size by rw [ByteArray.size_append]; omega)
  have HS := hide hS
  have HS2 := hide hS2
  have HCA := hide (show ∀ (j : Nat) (z : ByteArray), sixL[j]? = some (.string z) → (w1.alloc (.cells #[.string ⟨#[]⟩, .string ⟨#[48]⟩, .string ⟨#[32]⟩, .string ⟨#[10]⟩, .string ⟨#[57]⟩, .string ⟨#[109, 101, 108, 116]⟩] 9)).drew.cell? ⟨w1.heap.size, j, none⟩ = some (.string z) from fun j z h => six_cell w1 j z h)
  clear ho hr1 p1 hS hS2 hzB
  go_wp2_with fail
  go_region_with (first
    | (go_at_call 24; refine (pick_in R (k + 1) 6 _ (by first | with_reducible exact HRD.out | with_reducible exact HRA.out) (by omega) (by omega) (by omega)).mono ?_; rintro e w2 ⟨y, rfl, q1, q2, ho2, hr2⟩; obtain ⟨j, rfl⟩ : ∃ j : Nat, y = j := ⟨y.toNat, by omega⟩; obtain ⟨z, hz6, hzl⟩ := six_at j (by omega); have hs1 := HS.out z hzl; have hs2 := HS2.out z hzl; have cB := six_cell w2 j z hz6; (try have cA : w2.cell? ⟨w1.heap.size, j, none⟩ = some (.string z) := (by rw [World.cell?_of_block (ho2.block w1.heap.size (by simp) (.inr (by omega)))]; with_reducible exact HCA.out j z hz6)); clear hz6))
  all_goals
    go_wp2_with fail
    go_ret
    refine ⟨_, rfl, by rw [ByteArray.size_append, ByteArray.size_append]; omega, ?_, ?_⟩
    · first
        | with_reducible exact (Other.step T_1.out (((Below.refl _ _).alloc (Nat.le_refl _) _).drew) hz1).trans ho2
        | exact Other.step ((Other.drew T_1.out).trans ho2) ((Below.refl _ _).alloc (Nat.le_refl _) _) (Nat.le_trans hz1 ho2.size)
    · first
        | with_reducible exact hr2
        | exact hr2.keep (B := w2.heap.size) ((Below.refl _ _).alloc (Nat.le_refl _) _) hr2.lt
end Go.Proofs.YtbafifilklfafaaDoor
