/-
  Strands cut into slabs of two lengths, in plain numbers. No program in sight.
-/
import Derived.Test.YtbafifilklfafaaDoorPlainPile
namespace Go.Proofs.YtbafifilklfafaaDoor
open Go.RowKit

def lensB (a b : Int) : Bool := wi a 1 60 && wi b (a + 1) 60
theorem lensB_iff {a b : Int} : lensB a b = true ↔ (1 ≤ a ∧ a ≤ 60) ∧ (a + 1 ≤ b ∧ b ≤ 60) := by simp [lensB, wi_iff]
/-- The least waste at a length n, by what is known of lesser ones. -/
def wasteAt (t : List Int) (a b : Int) (n : Nat) : Int :=
  let x := if a ≤ n then min (n : Int) (t.getD ((n : Int) - a).toNat 0) else n
  if b ≤ n then min x (t.getD ((n : Int) - b).toNat 0) else x
def tab (a b : Int) : Nat → List Int
  | 0 => []
  | n + 1 => tab a b n ++ [wasteAt (tab a b n) a b n]
theorem tab_len (a b : Int) : ∀ n, (tab a b n).length = n
  | 0 => rfl
  | n + 1 => by simp [tab, tab_len a b n]
theorem tab_old (a b : Int) {n k : Nat} (h : k < n) : (tab a b (n + 1)).getD k 0 = (tab a b n).getD k 0 := by
  simp only [tab, List.getD_eq_getElem?_getD]
  rw [List.getElem?_append_left (by rw [tab_len]; exact h)]
theorem tab_le (a b : Int) {n m k : Nat} (h : k < n) (hm : n ≤ m) : (tab a b m).getD k 0 = (tab a b n).getD k 0 := by
  induction hm with
  | refl => rfl
  | step hm ih => rw [tab_old a b (Nat.lt_of_lt_of_le h hm), ih]
theorem tab_new (a b : Int) (n : Nat) : (tab a b (n + 1)).getD n 0 = wasteAt (tab a b n) a b n := by
  simp [tab, List.getD, tab_len]
theorem tab_bd {a b : Int} : ∀ n k, k < n → 0 ≤ (tab a b n).getD k 0 ∧ (tab a b n).getD k 0 ≤ k
  | 0, k, h => by omega
  | n + 1, k, h => by
    rcases Nat.lt_or_ge k n with hlt | hge
    · rw [tab_old a b hlt]; exact tab_bd n k hlt
    · obtain rfl : k = n := by omega
      rw [tab_new]
      have hb : ∀ j : Nat, 0 ≤ (tab a b k).getD j 0 := fun j => by
        rcases Nat.lt_or_ge j k with hj | hj
        · exact (tab_bd k j hj).1
        · rw [List.getD_eq_getElem?_getD, List.getElem?_eq_none (by rw [tab_len]; exact hj)]; exact Int.le_refl _
      have h1 := hb ((k : Int) - a).toNat
      have h2 := hb ((k : Int) - b).toNat
      unfold wasteAt
      simp only
      split <;> split <;> omega
/-- One more slab of a length is still possible. -/
def moreB (t : List Int) (x left : Int) : Bool := decide (x ≤ left) && (t.getD (left - x).toNat 0 == t.getD left.toNat 0)
/-- How many slabs of a length x are cut, one after the other. -/
def cnt (t : List Int) (x : Int) : Nat → Int → Nat
  | 0, _ => 0
  | f + 1, left => if moreB t x left then cnt t x f (left - x) + 1 else 0
theorem cnt_le (t : List Int) {x : Int} (hx : 1 ≤ x) : ∀ (f : Nat) (left : Int), 0 ≤ left → (cnt t x f left : Int) * x ≤ left
  | 0, left, h => by simp [cnt]; omega
  | f + 1, left, h => by
    unfold cnt
    split
    · rename_i hm
      unfold moreB at hm
      rw [Bool.and_eq_true, decide_eq_true_iff] at hm
      have := cnt_le t hx f (left - x) (by omega)
      rw [Int.natCast_add, Int.add_mul]; omega
    · simp; omega
/-- The table's value stays. -/
theorem cnt_same (t : List Int) {x : Int} (hx : 1 ≤ x) : ∀ (f : Nat) (left : Int), 0 ≤ left → t.getD (left - (cnt t x f left : Int) * x).toNat 0 = t.getD left.toNat 0
  | 0, left, h => by simp [cnt]
  | f + 1, left, h => by
    unfold cnt
    split
    · rename_i hm
      unfold moreB at hm
      rw [Bool.and_eq_true, decide_eq_true_iff, beq_iff_eq] at hm
      have := cnt_same t hx f (left - x) (by omega)
      rw [Int.natCast_add, Int.add_mul, show left - ((cnt t x f (left - x) : Int) * x + (1 : Nat) * x) = left - x - (cnt t x f (left - x) : Int) * x by omega, this, hm.2]
    · simp
theorem cnt_fuel (t : List Int) {x : Int} (hx : 1 ≤ x) : ∀ (f g : Nat) (left : Int), 0 ≤ left → left < f → left < g → cnt t x f left = cnt t x g left
  | 0, _, left, h, h1, _ => by omega
  | _ + 1, 0, left, h, _, h2 => by omega
  | f + 1, g + 1, left, h, h1, h2 => by
    unfold cnt
    split
    · rename_i hm
      unfold moreB at hm
      rw [Bool.and_eq_true, decide_eq_true_iff] at hm
      rw [cnt_fuel t hx f g (left - x) (by omega) (by omega) (by omega)]
    · rfl
/-- How many slabs of the greater and of the lesser length a strand is cut into. -/
def many1 (L a b : Int) : Nat := cnt (tab a b (L.toNat + 1)) b (L.toNat + 1) L
def many0 (L a b : Int) : Nat := cnt (tab a b (L.toNat + 1)) a (L.toNat + 1) (L - many1 L a b * b)
theorem many_le {L a b : Int} (h : lensB a b = true) (hL : 0 ≤ L) : (many1 L a b : Int) * b ≤ L ∧ (many0 L a b : Int) * a + (many1 L a b : Int) * b ≤ L := by
  obtain ⟨⟨h1, h2⟩, h3, h4⟩ := lensB_iff.1 h
  have e1 := cnt_le (tab a b (L.toNat + 1)) (show 1 ≤ b by omega) (L.toNat + 1) L hL
  have e1' : (many1 L a b : Int) * b ≤ L := e1
  have e0 := cnt_le (tab a b (L.toNat + 1)) h1 (L.toNat + 1) (L - many1 L a b * b) (by omega)
  have e0' : (many0 L a b : Int) * a ≤ L - many1 L a b * b := e0
  omega
theorem many_bd {L a b : Int} (h : lensB a b = true) (hL : 0 ≤ L) : (many1 L a b : Int) ≤ L ∧ (many0 L a b : Int) ≤ L := by
  obtain ⟨⟨h1, h2⟩, h3, h4⟩ := lensB_iff.1 h
  obtain ⟨e1, e0⟩ := many_le h hL
  have f1 : (many1 L a b : Int) * 1 ≤ (many1 L a b : Int) * b := Int.mul_le_mul_of_nonneg_left (by omega) (by omega)
  have f0 : (many0 L a b : Int) * 1 ≤ (many0 L a b : Int) * a := Int.mul_le_mul_of_nonneg_left (by omega) (by omega)
  have f2 : 0 ≤ (many1 L a b : Int) * b := Int.mul_nonneg (by omega) (by omega)
  omega
def wasteR (L a b : Int) : Int := L - many0 L a b * a - many1 L a b * b
end Go.Proofs.YtbafifilklfafaaDoor
