/-
  Texts of answers: ids with commas, grades. No walk.
-/
import Derived.Test.YtbafifilklfafaaDoorTextA
import Derived.Test.YtbafifilklfafaaDoorPlainMill
import Derived.Lib.Join
namespace Go.Proofs.YtbafifilklfafaaDoor
open Go.RowKit

def comB : ByteArray := ⟨#[44]⟩
def hyB : ByteArray := ⟨#[45]⟩
def slB : ByteArray := ⟨#[47]⟩
def noneB : ByteArray := ⟨#[110, 111, 110, 101]⟩
def whatB : ByteArray := ⟨#[119, 104, 97, 116]⟩
def qB (k : Nat) : ByteArray :=
  if k == 0 then ⟨#[115, 116, 114, 97, 110, 100]⟩ else if k == 1 then ⟨#[115, 99, 114, 97, 112]⟩ else if k == 2 then ⟨#[109, 97, 115, 115]⟩ else if k == 3 then ⟨#[115, 108, 97, 98, 115]⟩ else if k == 4 then ⟨#[99, 111, 105, 108, 115]⟩ else if k == 5 then ⟨#[103, 111, 110, 101]⟩ else ⟨#[103, 114, 97, 100, 101]⟩
/-- Numerals with commas between them. -/
def joinN (ids : List Int) : ByteArray := ⟨(Lib.join (ids.map fun n => (numB n).data.toList) [44]).toArray⟩
theorem join_snoc (xs : List (List UInt8)) (y sep : List UInt8) : Lib.join (xs ++ [y]) sep = if xs = [] then y else Lib.join xs sep ++ (sep ++ y) := by
  obtain _ | ⟨x, r⟩ := xs
  · simp [Lib.join_one]
  · simp [Lib.join_cons, Lib.joinTail]
theorem joinN_nil : joinN [] = ⟨#[]⟩ := rfl
theorem joinN_first (n : Int) : joinN ([] ++ [n]) = numB n := by
  apply ByteArray.ext
  simp [joinN, Lib.join_one]
theorem joinN_snoc {ids : List Int} (h : ids ≠ []) (n : Int) : joinN (ids ++ [n]) = joinN ids ++ comB ++ numB n := by
  apply ByteArray.ext
  have h' : ids.map (fun n => (numB n).data.toList) ≠ [] := by simpa using h
  simp only [joinN, List.map_append, List.map_cons, List.map_nil, join_snoc, if_neg h']
  apply Array.ext'
  simp [comB]
theorem rev_ind {α : Type} {p : List α → Prop} (h0 : p []) (h1 : ∀ xs x, p xs → p (xs ++ [x])) (l : List α) : p l := by
  have : ∀ r : List α, p r.reverse := fun r => by
    induction r with
    | nil => exact h0
    | cons x r ih => rw [List.reverse_cons]; exact h1 _ _ ih
  have h := this l.reverse
  rwa [List.reverse_reverse] at h
theorem joinN_size {B : Nat} (ids : List Int) : (∀ n ∈ ids, (numB n).size ≤ B) → (joinN ids).size ≤ ids.length * (B + 1) :=
  rev_ind (p := fun ids => (∀ n ∈ ids, (numB n).size ≤ B) → (joinN ids).size ≤ ids.length * (B + 1)) (fun _ => by rw [joinN_nil]; exact Nat.zero_le _) (fun xs n ih h => by
    have h1 := ih fun x hx => h x (by simp [hx])
    have h2 := h n (by simp)
    rw [List.length_append, List.length_cons, List.length_nil, Nat.succ_mul]
    by_cases e : xs = []
    · subst e; rw [joinN_first]; simp; omega
    · rw [joinN_snoc e]
      simp only [ByteArray.size_append]
      have : comB.size = 1 := rfl
      omega) ids
theorem numB_pos {n : Int} (h : 0 ≤ n) : 0 < (numB n).size := by
  obtain ⟨k, rfl⟩ : ∃ k : Nat, n = k := ⟨n.toNat, by omega⟩
  by_cases hk : k < 10
  · rw [← numB_small k hk]; exact Nat.zero_lt_one
  · rw [← numB_big k hk]
    simp only [ByteArray.size_append]
    have : (⟨#[UInt8.ofNat (48 + ((k % 10 : Nat) : Int)).toNat]⟩ : ByteArray).size = 1 := rfl
    omega
theorem joinN_pos (ids : List Int) : ids ≠ [] → (∀ n ∈ ids, 0 ≤ n) → 0 < (joinN ids).size :=
  rev_ind (p := fun ids => ids ≠ [] → (∀ n ∈ ids, 0 ≤ n) → 0 < (joinN ids).size) (fun h => absurd rfl h) (fun xs n _ _ h0 => by
    have h2 := numB_pos (h0 n (by simp))
    by_cases e : xs = []
    · subst e; rw [joinN_first]; exact h2
    · rw [joinN_snoc e]
      simp only [ByteArray.size_append]; omega) ids
/-- Ids with commas, or none. -/
def idsB (ids : List Int) : ByteArray := if ids = [] then noneB else joinN ids
def rangeB (a b : Int) : ByteArray := numB a ++ hyB ++ numB b
def gradeB (g : Gr) : ByteArray := if grB g then rangeB g.lc g.hc ++ slB ++ rangeB g.lm g.hm ++ slB ++ rangeB g.ls g.hs else ⟨#[]⟩
/-- What a question is answered. -/
def askB (m : Mi) (q : ByteArray) : ByteArray :=
  if millB m then
    if q = qB 0 then numB m.strand else if q = qB 1 then numB m.scrap else if q = qB 2 then numB (massR m)
    else if q = qB 3 then idsB (piecesR m 0) else if q = qB 4 then idsB (piecesR m 1) else if q = qB 5 then idsB (piecesR m 2)
    else if q = qB 6 then gradeB m.rule else whatB
  else ⟨#[]⟩
end Go.Proofs.YtbafifilklfafaaDoor
