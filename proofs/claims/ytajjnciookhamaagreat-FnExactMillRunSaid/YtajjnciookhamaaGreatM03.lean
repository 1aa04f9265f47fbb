/-
  Parts of the proof, of 2 texts: what PlainCut, Shelf show. Conditions: each theorem states its own.
-/
import Derived.Shelf.Strconv.Itoa0
import Derived.Shelf.Sort.Plain
import Derived.Shelf.Slices.Turned
import Derived.Shelf.Slices.Equal
import Derived.Ground.Names2Prog
import Derived.Shelf.Slices.Clone
import Derived.Shelf.Slices.In.SortNone
import Derived.Shelf.Slices.Empties2
import Derived.Test.YtajjnciookhamaaGreatProg
import Derived.Test.YtajjnciookhamaaGreatM01
namespace Go.Proofs.YtajjnciookhamaaGreat
open Go.RowKit
def lensB (a b : Int) : Bool := wi a 1 60 && wi b (a + 1) 60
theorem lensB_iff {a b : Int} : lensB a b = true ↔ (1 ≤ a ∧ a ≤ 60) ∧ (a + 1 ≤ b ∧ b ≤ 60) := by simp [lensB, wi_iff]
/-- The least waste at a length n, by what is known of lesser ones. -/
def wasteAt (t : List Int) (a b : Int) (n : Nat) : Int :=
  let x := if a ≤ n then min (n : Int) (t.getD ((n : Int) - a).toNat 0) else n
  if b ≤ n then min x (t.getD ((n : Int) - b).toNat 0) else x
def tab (a b : Int) : Nat → List Int
  | 0 => []
  | n + 1 => tab a b n ++ [wasteAt (tab a b n) a b n]
theorem tab_len (a b : Int) : ∀ n, (tab a b n).length = n
  | 0 => rfl
  | n + 1 => by simp [tab, tab_len a b n]
theorem tab_old (a b : Int) {n k : Nat} (h : k < n) : (tab a b (n + 1)).getD k 0 = (tab a b n).getD k 0 := by
  simp only [tab, List.getD_eq_getElem?_getD]
  rw [List.getElem?_append_left (by rw [tab_len]; exact h)]
theorem tab_le (a b : Int) {n m k : Nat} (h : k < n) (hm : n ≤ m) : (tab a b m).getD k 0 = (tab a b n).getD k 0 := by
  induction hm with
  | refl => rfl
  | step hm ih => rw [tab_old a b (Nat.lt_of_lt_of_le h hm), ih]
theorem tab_new (a b : Int) (n : Nat) : (tab a b (n + 1)).getD n 0 = wasteAt (tab a b n) a b n := by
  simp [tab, List.getD, tab_len]
theorem tab_bd {a b : Int} : ∀ n k, k < n → 0 ≤ (tab a b n).getD k 0 ∧ (tab a b n).getD k 0 ≤ k
  | 0, k, h => by omega
  | n + 1, k, h => by
    rcases Nat.lt_or_ge k n with hlt | hge
    · rw [tab_old a b hlt]; exact tab_bd n k hlt
    · obtain rfl : k = n := by omega
      rw [tab_new]
      have hb : ∀ j : Nat, 0 ≤ (tab a b k).getD j 0 := fun j => by
        rcases Nat.lt_or_ge j k with hj | hj
        · exact (tab_bd k j hj).1
        · rw [List.getD_eq_getElem?_getD, List.getElem?_eq_none (by rw [tab_len]; exact hj)]; exact Int.le_refl _
      have h1 := hb ((k : Int) - a).toNat
      have h2 := hb ((k : Int) - b).toNat
      unfold wasteAt
      simp only
      split <;> split <;> omega
/-- One more slab of a length is still possible. -/
def moreB (t : List Int) (x left : Int) : Bool := decide (x ≤ left) && (t.getD (left - x).toNat 0 == t.getD left.toNat 0)
/-- How many slabs of a length x are cut, one after the other. -/
def cnt (t : List Int) (x : Int) : Nat → Int → Nat
  | 0, _ => 0
  | f + 1, left => if moreB t x left then cnt t x f (left - x) + 1 else 0
theorem cnt_le (t : List Int) {x : Int} (hx : 1 ≤ x) : ∀ (f : Nat) (left : Int), 0 ≤ left → (cnt t x f left : Int) * x ≤ left
  | 0, left, h => by simp [cnt]; omega
  | f + 1, left, h => by
    unfold cnt
    split
    · rename_i hm
      unfold moreB at hm
      rw [Bool.and_eq_true, decide_eq_true_iff] at hm
      have := cnt_le t hx f (left - x) (by omega)
      rw [Int.natCast_add, Int.add_mul]; omega
    · simp; omega
theorem cnt_fuel (t : List Int) {x : Int} (hx : 1 ≤ x) : ∀ (f g : Nat) (left : Int), 0 ≤ left → left < f → left < g → cnt t x f left = cnt t x g left
  | 0, _, left, h, h1, _ => by omega
  | _ + 1, 0, left, h, _, h2 => by omega
  | f + 1, g + 1, left, h, h1, h2 => by
    unfold cnt
    split
    · rename_i hm
      unfold moreB at hm
      rw [Bool.and_eq_true, decide_eq_true_iff] at hm
      rw [cnt_fuel t hx f g (left - x) (by omega) (by omega) (by omega)]
    · rfl
/-- How many slabs of the greater and of the lesser length a strand is cut into. -/
def many1 (L a b : Int) : Nat := cnt (tab a b (L.toNat + 1)) b (L.toNat + 1) L
def many0 (L a b : Int) : Nat := cnt (tab a b (L.toNat + 1)) a (L.toNat + 1) (L - many1 L a b * b)
theorem many_le {L a b : Int} (h : lensB a b = true) (hL : 0 ≤ L) : (many1 L a b : Int) * b ≤ L ∧ (many0 L a b : Int) * a + (many1 L a b : Int) * b ≤ L := by
  obtain ⟨⟨h1, h2⟩, h3, h4⟩ := lensB_iff.1 h
  have e1 := cnt_le (tab a b (L.toNat + 1)) (show 1 ≤ b by omega) (L.toNat + 1) L hL
  have e1' : (many1 L a b : Int) * b ≤ L := e1
  have e0 := cnt_le (tab a b (L.toNat + 1)) h1 (L.toNat + 1) (L - many1 L a b * b) (by omega)
  have e0' : (many0 L a b : Int) * a ≤ L - many1 L a b * b := e0
  omega
theorem many_bd {L a b : Int} (h : lensB a b = true) (hL : 0 ≤ L) : (many1 L a b : Int) ≤ L ∧ (many0 L a b : Int) ≤ L := by
  obtain ⟨⟨h1, h2⟩, h3, h4⟩ := lensB_iff.1 h
  obtain ⟨e1, e0⟩ := many_le h hL
  have f1 : (many1 L a b : Int) * 1 ≤ (many1 L a b : Int) * b := Int.mul_le_mul_of_nonneg_left (by omega) (by omega)
  have f0 : (many0 L a b : Int) * 1 ≤ (many0 L a b : Int) * a := Int.mul_le_mul_of_nonneg_left (by omega) (by omega)
  have f2 : 0 ≤ (many1 L a b : Int) * b := Int.mul_nonneg (by omega) (by omega)
  omega
def wasteR (L a b : Int) : Int := L - many0 L a b * a - many1 L a b * b
end Go.Proofs.YtajjnciookhamaaGreat
namespace Go.Proofs
open Go.Shelf
def Tryz.lays189_ren : Go.Shelf.Ren := ⟨fun | 189 => 111 | 125 => 124 | 257 => 123 | 128 => 137 | 129 => 138 | 294 => 128 | 295 => 129 | 296 => 130 | 297 => 131 | 298 => 132 | 299 => 133 | 216 => 134 | 300 => 135 | 301 => 136 | 328 => 141 | 329 => 142 | 330 => 143 | 331 => 144 | 332 => 145 | 215 => 146 | 343 => 148 | n => n, fun | 28 => 26 | 3 => 3 | 46 => 143 | 0 => 0 | 51 => 154 | 53 => 156 | 4 => 4 | 183 => 147 | 182 => 146 | 131 => 151 | 5 => 5 | 9 => 9 | 218 => 157 | 222 => 161 | 228 => 163 | 229 => 164 | n => n, fun | n => n⟩
theorem Tryz.lays189 : Go.Proofs.Lays.n189 Tryz.prog Tryz.lays189_ren := {
  mixed := by kernel_rfl
  f125 := Tryz.func124.trans (congrArg some (by kernel_rfl))
  f128 := Tryz.func137.trans (congrArg some (by kernel_rfl))
  f129 := Tryz.func138.trans (congrArg some (by kernel_rfl))
  f189 := Tryz.func111.trans (congrArg some (by kernel_rfl))
  f215 := Tryz.func146.trans (congrArg some (by kernel_rfl))
  f216 := Tryz.func134.trans (congrArg some (by kernel_rfl))
  f257 := Tryz.func123.trans (congrArg some (by kernel_rfl))
  f294 := Tryz.func128.trans (congrArg some (by kernel_rfl))
  f295 := Tryz.func129.trans (congrArg some (by kernel_rfl))
  f296 := Tryz.func130.trans (congrArg some (by kernel_rfl))
  f297 := Tryz.func131.trans (congrArg some (by kernel_rfl))
  f298 := Tryz.func132.trans (congrArg some (by kernel_rfl))
  f299 := Tryz.func133.trans (congrArg some (by kernel_rfl))
  f300 := Tryz.func135.trans (congrArg some (by kernel_rfl))
  f301 := Tryz.func136.trans (congrArg some (by kernel_rfl))
  f328 := Tryz.func141.trans (congrArg some (by kernel_rfl))
  f329 := Tryz.func142.trans (congrArg some (by kernel_rfl))
  f330 := Tryz.func143.trans (congrArg some (by kernel_rfl))
  f331 := Tryz.func144.trans (congrArg some (by kernel_rfl))
  f332 := Tryz.func145.trans (congrArg some (by kernel_rfl))
  f343 := Tryz.func148.trans (congrArg some (by kernel_rfl))
  t0 := Tryz.underlying0
  a0 := Tryz.isAgg0
  z0 := Tryz.sizeOf0
  v0 := Tryz.zeroValue0
  t3 := Tryz.underlying3
  a3 := Tryz.isAgg3
  z3 := Tryz.sizeOf3
  v3 := Tryz.zeroValue3
  t4 := Tryz.underlying4
  a4 := Tryz.isAgg4
  z4 := Tryz.sizeOf4
  v4 := Tryz.zeroValue4
  t5 := Tryz.underlying5
  a5 := Tryz.isAgg5
  z5 := Tryz.sizeOf5
  v5 := Tryz.zeroValue5
  t9 := Tryz.underlying9
  a9 := Tryz.isAgg9
  z9 := Tryz.sizeOf9
  v9 := Tryz.zeroValue9
  t28 := Tryz.underlying26
  a28 := Tryz.isAgg26
  z28 := Tryz.sizeOf26
  v28 := Tryz.zeroValue26
  t46 := Tryz.underlying143
  a46 := Tryz.isAgg143
  z46 := Tryz.sizeOf143
  v46 := Tryz.zeroValue143
  t51 := Tryz.underlying154
  a51 := Tryz.isAgg154
  z51 := Tryz.sizeOf154
  v51 := Tryz.zeroValue154
  t53 := Tryz.underlying156
  a53 := Tryz.isAgg156
  z53 := Tryz.sizeOf156
  v53 := Tryz.zeroValue156
  t131 := Tryz.underlying151
  a131 := Tryz.isAgg151
  z131 := Tryz.sizeOf151
  v131 := Tryz.zeroValue151
  t182 := Tryz.underlying146
  a182 := Tryz.isAgg146
  z182 := Tryz.sizeOf146
  v182 := Tryz.zeroValue146
  t183 := Tryz.underlying147
  a183 := Tryz.isAgg147
  z183 := Tryz.sizeOf147
  v183 := Tryz.zeroValue147
  t218 := Tryz.underlying157
  a218 := Tryz.isAgg157
  z218 := Tryz.sizeOf157
  v218 := Tryz.zeroValue157
  t222 := Tryz.underlying161
  a222 := Tryz.isAgg161
  z222 := Tryz.sizeOf161
  v222 := Tryz.zeroValue161
  t228 := Tryz.underlying163
  a228 := Tryz.isAgg163
  z228 := Tryz.sizeOf163
  v228 := Tryz.zeroValue163
  t229 := Tryz.underlying164
  a229 := Tryz.isAgg164
  z229 := Tryz.sizeOf164
  v229 := Tryz.zeroValue164 }
open Go.Sort Go.RowKit in
theorem Tryz.slices_Sort_int (blk off cap : Nat) (zs : List Int) (w : World) (hH : Holds (Value.int .i64) w blk off zs.toArray) (hblk : blk < w.heap.size) (hsz : zs.length < 4611686018427387904) :
    Calls Tryz.prog 111 #[.slice (some ⟨blk, off, none⟩) zs.length cap] w fun e w' =>
      e = .returned (.tuple #[]) ∧ ∃ n os, w' = grow (putRow (Value.int .i64) (Sort.ahead w n) blk off (zs.mergeSort fun x y => decide (x ≤ y)).toArray) os := Any.slices_Sort_int Tryz.lays189 blk off cap zs w hH hblk hsz
def Tryz.lays108_ren : Go.Shelf.Ren := ⟨fun | 108 => 118 | n => n, fun | 28 => 26 | 3 => 3 | 0 => 0 | 4 => 4 | n => n, fun | n => n⟩
theorem Tryz.lays108 : Go.Proofs.Lays.n108 Tryz.prog Tryz.lays108_ren := {
  mixed := by kernel_rfl
  f108 := Tryz.func118.trans (congrArg some (by kernel_rfl))
  t0 := Tryz.underlying0
  a0 := Tryz.isAgg0
  z0 := Tryz.sizeOf0
  v0 := Tryz.zeroValue0
  t3 := Tryz.underlying3
  a3 := Tryz.isAgg3
  z3 := Tryz.sizeOf3
  v3 := Tryz.zeroValue3
  t4 := Tryz.underlying4
  a4 := Tryz.isAgg4
  z4 := Tryz.sizeOf4
  v4 := Tryz.zeroValue4
  t28 := Tryz.underlying26
  a28 := Tryz.isAgg26
  z28 := Tryz.sizeOf26
  v28 := Tryz.zeroValue26 }
open Go.Lib in
/-- slices.Index at []int: "Index returns the index of the first occurrence of v in s, or -1 if not present.": IT RETURNS 'Lib.idxOf (the elements) v'; the world is as it was. 'zs': what the cells behind the slice's address hold (its spare capacity too, if you have it); 'zs.take n': its elements. (LAID: no walk: one application.) -/
theorem Tryz.slices_Index_int (b off n c : Nat) (zs : List Int) (x : Int) (w : World) (hz : n ≤ zs.length) (hbig : n ≤ 9223372036854775807) (hc : ∀ j, j < zs.length → w.cell? ⟨b, off + j, none⟩ = some (.int .i64 (zs.getD j 0))) :
    Calls Tryz.prog 118 #[.slice (some ⟨b, off, none⟩) n c, .int .i64 x] w fun e w' => e = .returned (.int .i64 (Lib.idxOf (zs.take n) x)) ∧ w' = w := Any.slices_Index_int Tryz.lays108 b off n c zs x w hz hbig hc
open Go.Lib in
/-- The same at a slice of length 0, a nil one too: no cell is known, none is asked for. (LAID: no walk: one application.) -/
theorem Tryz.slices_Index_int_empty (a : Option Addr) (c : Nat) (x : Int) (w : World) :
    Calls Tryz.prog 118 #[.slice a 0 c, .int .i64 x] w fun e w' => e = .returned (.int .i64 (Lib.idxOf [] x)) ∧ w' = w := Any.slices_Index_int_empty Tryz.lays108 a c x w
def Tryz.lays107_ren : Go.Shelf.Ren := ⟨fun | 107 => 110 | 108 => 118 | n => n, fun | 28 => 26 | 3 => 3 | 4 => 4 | 0 => 0 | n => n, fun | n => n⟩
theorem Tryz.lays107 : Go.Proofs.Lays.n107 Tryz.prog Tryz.lays107_ren := {
  mixed := by kernel_rfl
  f107 := Tryz.func110.trans (congrArg some (by kernel_rfl))
  f108 := Tryz.func118.trans (congrArg some (by kernel_rfl))
  t0 := Tryz.underlying0
  a0 := Tryz.isAgg0
  z0 := Tryz.sizeOf0
  v0 := Tryz.zeroValue0
  t3 := Tryz.underlying3
  a3 := Tryz.isAgg3
  z3 := Tryz.sizeOf3
  v3 := Tryz.zeroValue3
  t4 := Tryz.underlying4
  a4 := Tryz.isAgg4
  z4 := Tryz.sizeOf4
  v4 := Tryz.zeroValue4
  t28 := Tryz.underlying26
  a28 := Tryz.isAgg26
  z28 := Tryz.sizeOf26
  v28 := Tryz.zeroValue26 }
open Go.Lib in
/-- slices.Contains at []int: "Contains reports whether v is present in s.": IT RETURNS 'elements.contains v'; the world is as it was. ITS CALLEE slices.Index IS MET BY ITS OWN CONTRACT OFF THE SHELF (lay that first): no loop is walked here. (LAID: no walk: one application.) -/
theorem Tryz.slices_Contains_int (b off n c : Nat) (zs : List Int) (x : Int) (w : World) (hz : n ≤ zs.length) (hbig : n ≤ 9223372036854775807) (hc : ∀ j, j < zs.length → w.cell? ⟨b, off + j, none⟩ = some (.int .i64 (zs.getD j 0))) :
    Calls Tryz.prog 110 #[.slice (some ⟨b, off, none⟩) n c, .int .i64 x] w fun e w' => e = .returned (.bool ((zs.take n).contains x)) ∧ w' = w := Any.slices_Contains_int Tryz.lays107 b off n c zs x w hz hbig hc
open Go.Lib in
/-- The same at a slice of length 0, a nil one too. (LAID: no walk: one application.) -/
theorem Tryz.slices_Contains_int_empty (a : Option Addr) (c : Nat) (x : Int) (w : World) :
    Calls Tryz.prog 110 #[.slice a 0 c, .int .i64 x] w fun e w' => e = .returned (.bool false) ∧ w' = w := Any.slices_Contains_int_empty Tryz.lays107 a c x w
def Tryz.lays111_ren : Go.Shelf.Ren := ⟨fun | 111 => 74 | n => n, fun | 28 => 26 | 3 => 3 | 4 => 4 | 0 => 0 | n => n, fun | n => n⟩
theorem Tryz.lays111 : Go.Proofs.Lays.n111 Tryz.prog Tryz.lays111_ren := {
  mixed := by kernel_rfl
  f111 := Tryz.func74.trans (congrArg some (by kernel_rfl))
  t0 := Tryz.underlying0
  a0 := Tryz.isAgg0
  z0 := Tryz.sizeOf0
  v0 := Tryz.zeroValue0
  t3 := Tryz.underlying3
  a3 := Tryz.isAgg3
  z3 := Tryz.sizeOf3
  v3 := Tryz.zeroValue3
  t4 := Tryz.underlying4
  a4 := Tryz.isAgg4
  z4 := Tryz.sizeOf4
  v4 := Tryz.zeroValue4
  t28 := Tryz.underlying26
  a28 := Tryz.isAgg26
  z28 := Tryz.sizeOf26
  v28 := Tryz.zeroValue26 }
open Go.RowKit Go.Lib in
/-- slices.Equal at []int: "Equal reports whether two slices are equal: the same length and all elements equal. If the lengths are different, Equal returns false. Otherwise, the elements are compared in increasing index order, and the comparison stops at the first unequal pair. Empty and nil slices are considered equal.": IT RETURNS WHETHER THE TWO LISTS OF ELEMENTS ARE ONE; the world is as it was but for the count of draws (the test 's1[i] != s2[i]' has two reads, whose order the model draws, once a round). 'xs', 'ys': what the cells behind the two addresses hold (the spare capacity too, if you have it); 'xs.take n', 'ys.take m': the elements. THE TWO SLICES MAY OVERLAP. (LAID: no walk: one application.) -/
theorem Tryz.slices_Equal_int (b1 o1 n c b2 o2 m d : Nat) (xs ys : List Int) (w : World) (hx : n ≤ xs.length) (hy : m ≤ ys.length) (hbig : n ≤ 9223372036854775807) (hbig2 : m ≤ 9223372036854775807) (hc1 : ∀ j, j < xs.length → w.cell? ⟨b1, o1 + j, none⟩ = some (.int .i64 (xs.getD j 0))) (hc2 : ∀ j, j < ys.length → w.cell? ⟨b2, o2 + j, none⟩ = some (.int .i64 (ys.getD j 0))) :
    Calls Tryz.prog 74 #[.slice (some ⟨b1, o1, none⟩) n c, .slice (some ⟨b2, o2, none⟩) m d] w fun e w' => e = .returned (.bool (xs.take n == ys.take m)) ∧ ∃ q, w' = w.drewN q := Any.slices_Equal_int Tryz.lays111 b1 o1 n c b2 o2 m d xs ys w hx hy hbig hbig2 hc1 hc2
open Go.RowKit Go.Lib in
/-- The same where the first is of length 0 (a nil one too): no cell is asked for. (LAID: no walk: one application.) -/
theorem Tryz.slices_Equal_int_empty (a1 a2 : Option Addr) (c m d : Nat) (w : World) (hbig2 : m ≤ 9223372036854775807) :
    Calls Tryz.prog 74 #[.slice a1 0 c, .slice a2 m d] w fun e w' => e = .returned (.bool (decide (m = 0))) ∧ w' = w := Any.slices_Equal_int_empty Tryz.lays111 a1 a2 c m d w hbig2
open Go.RowKit Go.Sort in
/-- .. and plain. (LAID: no walk: one application.) -/
theorem Tryz.slices_Sort_int_none (p : Option Addr) (cap : Nat) (w : World) :
    Calls Tryz.prog 111 #[.slice p 0 cap] w fun e w' => e = .returned (.tuple #[]) ∧ w' = w := Any.slices_Sort_int_none Tryz.lays189 p cap w
open Go.RowKit Go.Lib in
theorem Tryz.slices_Equal_int_lens (a1 a2 : Option Addr) (n c m d : Nat) (w : World) (hnm : n ≠ m) :
    Calls Tryz.prog 74 #[.slice a1 n c, .slice a2 m d] w fun e w' => e = .returned (.bool false) ∧ w' = w := Any.slices_Equal_int_lens Tryz.lays111 a1 a2 n c m d w hnm
end Go.Proofs
