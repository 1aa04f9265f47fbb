/-
  Parts of the proofs over mills, of: Shelf, PileA. Conditions: each theorem states its own.
-/
import Derived.Shelf.Strings.OnBuilder
import Derived.Shelf.Strings.BuilderK
import Derived.Shelf.Strconv.Itoa3
import Derived.Shelf.Strings.Shaped
import Derived.Shelf.Sort.Plain
import Derived.Shelf.Strings.SplitShaped
import Derived.Shelf.Unicode.DecodeSlow
import Derived.Shelf.Slices.Turned
import Derived.Shelf.Slices.Clone
import Derived.Shelf.Slices.In.SortNone
import Derived.Shelf.Slices.Empties2
import Derived.Lib.AppendZeros
import Derived.Test.YtmemgbklgcjobaaGreatDoorY06
set_option linter.unusedSimpArgs false
set_option linter.unusedVariables false
set_option maxRecDepth 10000
set_option maxHeartbeats 64000000
namespace Go.Proofs
open Go.Shelf
def Tryz.lays189_ren : Go.Shelf.Ren := ⟨fun | 189 => 105 | 125 => 158 | 257 => 157 | 128 => 195 | 129 => 196 | 294 => 186 | 295 => 187 | 296 => 188 | 297 => 189 | 298 => 190 | 299 => 191 | 216 => 192 | 300 => 193 | 301 => 194 | 328 => 226 | 329 => 227 | 330 => 228 | 331 => 229 | 332 => 230 | 215 => 231 | 343 => 245 | n => n, fun | 28 => 27 | 3 => 3 | 46 => 169 | 0 => 0 | 51 => 195 | 53 => 197 | 4 => 4 | 183 => 189 | 182 => 188 | 131 => 141 | 5 => 5 | 9 => 9 | 218 => 222 | 222 => 226 | 228 => 237 | 229 => 238 | n => n, fun | n => n⟩
theorem Tryz.lays189 : Go.Proofs.Lays.n189 Tryz.prog Tryz.lays189_ren := {
 mixed := by kernel_rfl
 f125 := Tryz.func158.trans (congrArg some (by kernel_rfl))
 f128 := Tryz.func195.trans (congrArg some (by kernel_rfl))
 f129 := Tryz.func196.trans (congrArg some (by kernel_rfl))
 f189 := Tryz.func105.trans (congrArg some (by kernel_rfl))
 f215 := Tryz.func231.trans (congrArg some (by kernel_rfl))
 f216 := Tryz.func192.trans (congrArg some (by kernel_rfl))
 f257 := Tryz.func157.trans (congrArg some (by kernel_rfl))
 f294 := Tryz.func186.trans (congrArg some (by kernel_rfl))
 f295 := Tryz.func187.trans (congrArg some (by kernel_rfl))
 f296 := Tryz.func188.trans (congrArg some (by kernel_rfl))
 f297 := Tryz.func189.trans (congrArg some (by kernel_rfl))
 f298 := Tryz.func190.trans (congrArg some (by kernel_rfl))
 f299 := Tryz.func191.trans (congrArg some (by kernel_rfl))
 f300 := Tryz.func193.trans (congrArg some (by kernel_rfl))
 f301 := Tryz.func194.trans (congrArg some (by kernel_rfl))
 f328 := Tryz.func226.trans (congrArg some (by kernel_rfl))
 f329 := Tryz.func227.trans (congrArg some (by kernel_rfl))
 f330 := Tryz.func228.trans (congrArg some (by kernel_rfl))
 f331 := Tryz.func229.trans (congrArg some (by kernel_rfl))
 f332 := Tryz.func230.trans (congrArg some (by kernel_rfl))
 f343 := Tryz.func245.trans (congrArg some (by kernel_rfl))
 t0 := Tryz.underlying0
 a0 := Tryz.isAgg0
 z0 := Tryz.sizeOf0
 v0 := Tryz.zeroValue0
 t3 := Tryz.underlying3
 a3 := Tryz.isAgg3
 z3 := Tryz.sizeOf3
 v3 := Tryz.zeroValue3
 t4 := Tryz.underlying4
 a4 := Tryz.isAgg4
 z4 := Tryz.sizeOf4
 v4 := Tryz.zeroValue4
 t5 := Tryz.underlying5
 a5 := Tryz.isAgg5
 z5 := Tryz.sizeOf5
 v5 := Tryz.zeroValue5
 t9 := Tryz.underlying9
 a9 := Tryz.isAgg9
 z9 := Tryz.sizeOf9
 v9 := Tryz.zeroValue9
 t28 := Tryz.underlying27
 a28 := Tryz.isAgg27
 z28 := Tryz.sizeOf27
 v28 := Tryz.zeroValue27
 t46 := Tryz.underlying169
 a46 := Tryz.isAgg169
 z46 := Tryz.sizeOf169
 v46 := Tryz.zeroValue169
 t51 := Tryz.underlying195
 a51 := Tryz.isAgg195
 z51 := Tryz.sizeOf195
 v51 := Tryz.zeroValue195
 t53 := Tryz.underlying197
 a53 := Tryz.isAgg197
 z53 := Tryz.sizeOf197
 v53 := Tryz.zeroValue197
 t131 := Tryz.underlying141
 a131 := Tryz.isAgg141
 z131 := Tryz.sizeOf141
 v131 := Tryz.zeroValue141
 t182 := Tryz.underlying188
 a182 := Tryz.isAgg188
 z182 := Tryz.sizeOf188
 v182 := Tryz.zeroValue188
 t183 := Tryz.underlying189
 a183 := Tryz.isAgg189
 z183 := Tryz.sizeOf189
 v183 := Tryz.zeroValue189
 t218 := Tryz.underlying222
 a218 := Tryz.isAgg222
 z218 := Tryz.sizeOf222
 v218 := Tryz.zeroValue222
 t222 := Tryz.underlying226
 a222 := Tryz.isAgg226
 z222 := Tryz.sizeOf226
 v222 := Tryz.zeroValue226
 t228 := Tryz.underlying237
 a228 := Tryz.isAgg237
 z228 := Tryz.sizeOf237
 v228 := Tryz.zeroValue237
 t229 := Tryz.underlying238
 a229 := Tryz.isAgg238
 z229 := Tryz.sizeOf238
 v229 := Tryz.zeroValue238 }
open Go.Sort Go.RowKit in
theorem Tryz.slices_Sort_int (blk off cap : Nat) (zs : List Int) (w : World) (hH : Holds (Value.int .i64) w blk off zs.toArray) (hblk : blk < w.heap.size) (hsz : zs.length < 4611686018427387904) :
 Calls Tryz.prog 105 #[.slice (some ⟨blk, off, none⟩) zs.length cap] w fun e w' =>
  e = .returned (.tuple #[]) ∧ ∃ n os, w' = grow (putRow (Value.int .i64) (Sort.ahead w n) blk off (zs.mergeSort fun x y => decide (x ≤ y)).toArray) os := Any.slices_Sort_int Tryz.lays189 blk off cap zs w hH hblk hsz
def Tryz.lays146_ren : Go.Shelf.Ren := ⟨fun | 146 => 124 | 221 => 177 | 268 => 214 | 138 => 215 | 143 => 216 | 195 => 236 | 197 => 237 | 218 => 238 | 219 => 182 | 260 => 250 | 217 => 218 | 225 => 219 | 224 => 220 | 267 => 221 | 266 => 239 | 314 => 240 | n => n, fun | 9 => 9 | 31 => 138 | 3 => 3 | 4 => 4 | 0 => 0 | 105 => 230 | 21 => 21 | 5 => 5 | 46 => 169 | 119 => 243 | 139 => 246 | 138 => 245 | 146 => 232 | 51 => 195 | n => n, fun | 1 => 1 | 3 => 3 | 4 => 4 | n => n⟩
theorem Tryz.lays146 : Go.Proofs.Lays.n146 Tryz.prog Tryz.lays146_ren := {
 mixed := by kernel_rfl
 f138 := Tryz.func215.trans (congrArg some (by kernel_rfl))
 f143 := Tryz.func216.trans (congrArg some (by kernel_rfl))
 f146 := Tryz.func124.trans (congrArg some (by kernel_rfl))
 f195 := Tryz.func236.trans (congrArg some (by kernel_rfl))
 f197 := Tryz.func237.trans (congrArg some (by kernel_rfl))
 f217 := Tryz.func218.trans (congrArg some (by kernel_rfl))
 f218 := Tryz.func238.trans (congrArg some (by kernel_rfl))
 f219 := Tryz.func182.trans (congrArg some (by kernel_rfl))
 f221 := Tryz.func177.trans (congrArg some (by kernel_rfl))
 f224 := Tryz.func220.trans (congrArg some (by kernel_rfl))
 f225 := Tryz.func219.trans (congrArg some (by kernel_rfl))
 f260 := Tryz.func250.trans (congrArg some (by kernel_rfl))
 f266 := Tryz.func239.trans (congrArg some (by kernel_rfl))
 f267 := Tryz.func221.trans (congrArg some (by kernel_rfl))
 f268 := Tryz.func214.trans (congrArg some (by kernel_rfl))
 f314 := Tryz.func240.trans (congrArg some (by kernel_rfl))
 t0 := Tryz.underlying0
 a0 := Tryz.isAgg0
 z0 := Tryz.sizeOf0
 v0 := Tryz.zeroValue0
 t3 := Tryz.underlying3
 a3 := Tryz.isAgg3
 z3 := Tryz.sizeOf3
 v3 := Tryz.zeroValue3
 t4 := Tryz.underlying4
 a4 := Tryz.isAgg4
 z4 := Tryz.sizeOf4
 v4 := Tryz.zeroValue4
 t5 := Tryz.underlying5
 a5 := Tryz.isAgg5
 z5 := Tryz.sizeOf5
 v5 := Tryz.zeroValue5
 t9 := Tryz.underlying9
 a9 := Tryz.isAgg9
 z9 := Tryz.sizeOf9
 v9 := Tryz.zeroValue9
 t21 := Tryz.underlying21
 a21 := Tryz.isAgg21
 z21 := Tryz.sizeOf21
 v21 := Tryz.zeroValue21
 t31 := Tryz.underlying138
 a31 := Tryz.isAgg138
 z31 := Tryz.sizeOf138
 v31 := Tryz.zeroValue138
 t46 := Tryz.underlying169
 a46 := Tryz.isAgg169
 z46 := Tryz.sizeOf169
 v46 := Tryz.zeroValue169
 t51 := Tryz.underlying195
 a51 := Tryz.isAgg195
 z51 := Tryz.sizeOf195
 v51 := Tryz.zeroValue195
 t105 := Tryz.underlying230
 a105 := Tryz.isAgg230
 z105 := Tryz.sizeOf230
 v105 := Tryz.zeroValue230
 t119 := Tryz.underlying243
 a119 := Tryz.isAgg243
 z119 := Tryz.sizeOf243
 t138 := Tryz.underlying245
 a138 := Tryz.isAgg245
 z138 := Tryz.sizeOf245
 v138 := Tryz.zeroValue245
 t139 := Tryz.underlying246
 a139 := Tryz.isAgg246
 z139 := Tryz.sizeOf246
 v139 := Tryz.zeroValue246
 t146 := Tryz.underlying232
 a146 := Tryz.isAgg232
 z146 := Tryz.sizeOf232
 v146 := Tryz.zeroValue232
 g1 := by kernel_rfl
 g3 := by kernel_rfl
 g4 := by kernel_rfl }
open Go.RowKit Go.Lib in
theorem Tryz.strings_Split (s sep : ByteArray) (m : Int) (w : World) (hs : s.size < 4294967281) (hm : w.cell? ⟨1, 0, none⟩ = some (.int .i64 m)) (h1 : 1 ≤ sep.size) :
 Calls Tryz.prog 124 #[.string s, .string sep] w fun e w' =>
  e = .returned (.slice (some ⟨w.heap.size, 0, none⟩) (Lib.countB s sep + 1) (Lib.countB s sep + 1)) ∧ w' = w.alloc (.cells ((Lib.splitB sep 0 (Lib.countB s sep) s).map Value.string).toArray 9) := Any.strings_Split Tryz.lays146 (by kernel_rfl) s sep m w hs hm h1
def Tryz.laysM146_ren : Go.Shelf.Ren := ⟨fun | 146 => 124 | 221 => 177 | 268 => 214 | 138 => 215 | 143 => 216 | 195 => 236 | 197 => 237 | 218 => 238 | 219 => 182 | 260 => 250 | 217 => 218 | 225 => 219 | 224 => 220 | 267 => 221 | 266 => 239 | 314 => 240 | n => n, fun | 9 => 9 | 31 => 138 | 3 => 3 | 4 => 4 | 0 => 0 | 105 => 230 | 21 => 21 | 5 => 5 | 46 => 169 | 119 => 243 | 139 => 246 | 138 => 245 | 146 => 232 | 51 => 195 | n => n, fun | 1 => 1 | 3 => 3 | 4 => 4 | n => n⟩
theorem Tryz.laysM146 : Go.Proofs.LaysM.n146 Tryz.prog Tryz.laysM146_ren := {
 mixed := by kernel_rfl
 f138 := Tryz.func215.trans (congrArg some (by kernel_rfl))
 f143 := Tryz.func216.trans (congrArg some (by kernel_rfl))
 f146 := Tryz.func124.trans (congrArg some (by kernel_rfl))
 f195 := Tryz.func236.trans (congrArg some (by kernel_rfl))
 f197 := Tryz.func237.trans (congrArg some (by kernel_rfl))
 f217 := Tryz.func218.trans (congrArg some (by kernel_rfl))
 f218 := Tryz.func238.trans (congrArg some (by kernel_rfl))
 f219 := Tryz.func182.trans (congrArg some (by kernel_rfl))
 f221 := Tryz.func177.trans (congrArg some (by kernel_rfl))
 f224 := Tryz.func220.trans (congrArg some (by kernel_rfl))
 f225 := Tryz.func219.trans (congrArg some (by kernel_rfl))
 f260 := Tryz.func250.trans (congrArg some (by kernel_rfl))
 f266 := Tryz.func239.trans (congrArg some (by kernel_rfl))
 f267 := Tryz.func221.trans (congrArg some (by kernel_rfl))
 f268 := Tryz.func214.trans (congrArg some (by kernel_rfl))
 f314 := Tryz.func240.trans (congrArg some (by kernel_rfl))
 t0 := Tryz.underlying0
 a0 := Tryz.isAgg0
 z0 := Tryz.sizeOf0
 v0 := Tryz.zeroValue0
 t3 := Tryz.underlying3
 a3 := Tryz.isAgg3
 z3 := Tryz.sizeOf3
 v3 := Tryz.zeroValue3
 t4 := Tryz.underlying4
 a4 := Tryz.isAgg4
 z4 := Tryz.sizeOf4
 v4 := Tryz.zeroValue4
 t5 := Tryz.underlying5
 a5 := Tryz.isAgg5
 z5 := Tryz.sizeOf5
 v5 := Tryz.zeroValue5
 t9 := Tryz.underlying9
 a9 := Tryz.isAgg9
 z9 := Tryz.sizeOf9
 v9 := Tryz.zeroValue9
 t21 := Tryz.underlying21
 a21 := Tryz.isAgg21
 z21 := Tryz.sizeOf21
 v21 := Tryz.zeroValue21
 t31 := Tryz.underlying138
 a31 := Tryz.isAgg138
 z31 := Tryz.sizeOf138
 v31 := Tryz.zeroValue138
 t46 := Tryz.underlying169
 a46 := Tryz.isAgg169
 z46 := Tryz.sizeOf169
 v46 := Tryz.zeroValue169
 t51 := Tryz.underlying195
 a51 := Tryz.isAgg195
 z51 := Tryz.sizeOf195
 v51 := Tryz.zeroValue195
 t105 := Tryz.underlying230
 a105 := Tryz.isAgg230
 z105 := Tryz.sizeOf230
 v105 := Tryz.zeroValue230
 t119 := Tryz.underlying243
 a119 := Tryz.isAgg243
 z119 := Tryz.sizeOf243
 t138 := Tryz.underlying245
 a138 := Tryz.isAgg245
 z138 := Tryz.sizeOf245
 v138 := Tryz.zeroValue245
 t139 := Tryz.underlying246
 a139 := Tryz.isAgg246
 z139 := Tryz.sizeOf246
 v139 := Tryz.zeroValue246
 t146 := Tryz.underlying232
 a146 := Tryz.isAgg232
 z146 := Tryz.sizeOf232
 v146 := Tryz.zeroValue232
 g1 := by kernel_rfl
 g3 := by kernel_rfl
 g4 := by kernel_rfl
 i0 := by kernel_rfl
 i3 := by kernel_rfl
 i4 := by kernel_rfl
 i5 := by kernel_rfl
 i9 := by kernel_rfl
 i21 := by kernel_rfl
 i31 := by kernel_rfl
 i46 := by kernel_rfl
 i51 := by kernel_rfl
 i105 := by kernel_rfl
 i138 := by kernel_rfl
 i139 := by kernel_rfl
 i146 := by kernel_rfl
 m1 := by kernel_rfl
 s1_3 := fun w h => Go.Proofs.cell_of_shapedOpen_int (zero := #[.int .i64 0]) (t := 3) h (of_decide_eq_true (by kernel_rfl)) (by kernel_rfl) rfl (by kernel_rfl) (by kernel_rfl) Tryz.underlying3
 m3 := by kernel_rfl
 m4 := by kernel_rfl }
def Tryz.lays107_ren : Go.Shelf.Ren := ⟨fun | 107 => 146 | 108 => 185 | n => n, fun | 28 => 27 | 3 => 3 | 4 => 4 | 0 => 0 | n => n, fun | n => n⟩
theorem Tryz.lays107 : Go.Proofs.Lays.n107 Tryz.prog Tryz.lays107_ren := {
 mixed := by kernel_rfl
 f107 := Tryz.func146.trans (congrArg some (by kernel_rfl))
 f108 := Tryz.func185.trans (congrArg some (by kernel_rfl))
 t0 := Tryz.underlying0
 a0 := Tryz.isAgg0
 z0 := Tryz.sizeOf0
 v0 := Tryz.zeroValue0
 t3 := Tryz.underlying3
 a3 := Tryz.isAgg3
 z3 := Tryz.sizeOf3
 v3 := Tryz.zeroValue3
 t4 := Tryz.underlying4
 a4 := Tryz.isAgg4
 z4 := Tryz.sizeOf4
 v4 := Tryz.zeroValue4
 t28 := Tryz.underlying27
 a28 := Tryz.isAgg27
 z28 := Tryz.sizeOf27
 v28 := Tryz.zeroValue27 }
open Go.Lib in
theorem Tryz.slices_Contains_int (b off n c : Nat) (zs : List Int) (x : Int) (w : World) (hz : n ≤ zs.length) (hbig : n ≤ 9223372036854775807) (hc : ∀ j, j < zs.length → w.cell? ⟨b, off + j, none⟩ = some (.int .i64 (zs.getD j 0))) :
 Calls Tryz.prog 146 #[.slice (some ⟨b, off, none⟩) n c, .int .i64 x] w fun e w' => e = .returned (.bool ((zs.take n).contains x)) ∧ w' = w := Any.slices_Contains_int Tryz.lays107 b off n c zs x w hz hbig hc
open Go.Lib in
theorem Tryz.slices_Contains_int_empty (a : Option Addr) (c : Nat) (x : Int) (w : World) :
 Calls Tryz.prog 146 #[.slice a 0 c, .int .i64 x] w fun e w' => e = .returned (.bool false) ∧ w' = w := Any.slices_Contains_int_empty Tryz.lays107 a c x w
def Tryz.lays111_ren : Go.Shelf.Ren := ⟨fun | 111 => 85 | n => n, fun | 28 => 27 | 3 => 3 | 4 => 4 | 0 => 0 | n => n, fun | n => n⟩
theorem Tryz.lays111 : Go.Proofs.Lays.n111 Tryz.prog Tryz.lays111_ren := {
 mixed := by kernel_rfl
 f111 := Tryz.func85.trans (congrArg some (by kernel_rfl))
 t0 := Tryz.underlying0
 a0 := Tryz.isAgg0
 z0 := Tryz.sizeOf0
 v0 := Tryz.zeroValue0
 t3 := Tryz.underlying3
 a3 := Tryz.isAgg3
 z3 := Tryz.sizeOf3
 v3 := Tryz.zeroValue3
 t4 := Tryz.underlying4
 a4 := Tryz.isAgg4
 z4 := Tryz.sizeOf4
 v4 := Tryz.zeroValue4
 t28 := Tryz.underlying27
 a28 := Tryz.isAgg27
 z28 := Tryz.sizeOf27
 v28 := Tryz.zeroValue27 }
open Go.RowKit Go.Lib in
theorem Tryz.slices_Equal_int (b1 o1 n c b2 o2 m d : Nat) (xs ys : List Int) (w : World) (hx : n ≤ xs.length) (hy : m ≤ ys.length) (hbig : n ≤ 9223372036854775807) (hbig2 : m ≤ 9223372036854775807) (hc1 : ∀ j, j < xs.length → w.cell? ⟨b1, o1 + j, none⟩ = some (.int .i64 (xs.getD j 0))) (hc2 : ∀ j, j < ys.length → w.cell? ⟨b2, o2 + j, none⟩ = some (.int .i64 (ys.getD j 0))) :
 Calls Tryz.prog 85 #[.slice (some ⟨b1, o1, none⟩) n c, .slice (some ⟨b2, o2, none⟩) m d] w fun e w' => e = .returned (.bool (xs.take n == ys.take m)) ∧ ∃ q, w' = w.drewN q := Any.slices_Equal_int Tryz.lays111 b1 o1 n c b2 o2 m d xs ys w hx hy hbig hbig2 hc1 hc2
open Go.RowKit Go.Lib in
theorem Tryz.slices_Equal_int_empty (a1 a2 : Option Addr) (c m d : Nat) (w : World) (hbig2 : m ≤ 9223372036854775807) :
 Calls Tryz.prog 85 #[.slice a1 0 c, .slice a2 m d] w fun e w' => e = .returned (.bool (decide (m = 0))) ∧ w' = w := Any.slices_Equal_int_empty Tryz.lays111 a1 a2 c m d w hbig2
open Go.RowKit Go.Sort in
theorem Tryz.slices_Sort_int_none (p : Option Addr) (cap : Nat) (w : World) :
 Calls Tryz.prog 105 #[.slice p 0 cap] w fun e w' => e = .returned (.tuple #[]) ∧ w' = w := Any.slices_Sort_int_none Tryz.lays189 p cap w
open Go.RowKit Go.Lib in
theorem Tryz.slices_Equal_int_lens (a1 a2 : Option Addr) (n c m d : Nat) (w : World) (hnm : n ≠ m) :
 Calls Tryz.prog 85 #[.slice a1 n c, .slice a2 m d] w fun e w' => e = .returned (.bool false) ∧ w' = w := Any.slices_Equal_int_lens Tryz.lays111 a1 a2 n c m d w hnm
end Go.Proofs
namespace Go.Proofs.YtmemgbklgcjobaaGreatDoor
open Go.RowKit
theorem IntsAt.take {lo hi n cap k : Nat} {ao : Option Addr} {w : World} {xs : List Int} (h : IntsAt lo hi w (.slice ao n cap) xs) (hk : k ≤ n) : IntsAt lo hi w (.slice ao k cap) (xs.take k) := by
 obtain ⟨ao', cap', e, a1, a2, a3, a4⟩ := h;simp only [Value.slice.injEq] at e;obtain ⟨rfl, rfl, rfl⟩ := e;have hl : (xs.take k).length = k := by simp; omega
 refine ⟨ao, cap, by rw [hl], by omega, a2, a3, fun hn => ?_⟩;obtain ⟨b, o, ea, hb1, hb2, hc⟩ := a4 (by omega);refine ⟨b, o, ea, hb1, hb2, fun i hi => ?_⟩;rw [List.getElem_take];exact hc i (by omega)
theorem l1Has_any (v : Value) (xs : List Int) (lo hi : Nat) (n : Int) (w : World) (h : IntsAt lo hi w v xs) :
 Calls Tryz.prog 134 #[v, .int .i64 n] w fun e w' => e = .returned (.bool (hasI xs n)) ∧ w = w' := by
 obtain ⟨ao, cap, rfl, hlc, hcap, hhi, hc⟩ := h;have Hc := hide hc;clear hc;go_enter Tryz.func134, Tryz.ntmps134;go_wp2_with fail
 go_loop [5] (fun i => ∃ k : Nat, k ≤ xs.length ∧ i = .int .i64 k ∧ (∀ j (_ : j < xs.length), j < k → xs[j] ≠ n)) (fun i => xs.length - (intOf i).toNat)
 case atStart => exact ⟨0, Nat.zero_le _, rfl, fun _ _ h => absurd h (Nat.not_lt_zero _)⟩
 case round =>
  obtain ⟨k, hk, rfl, hall⟩ := hrel;have Ha := hide hall;clear hall;by_cases hlt : k < xs.length
  ·obtain ⟨b, o, rfl, hb1, hb2, hcs⟩ := Hc.out (by omega)
   obtain ⟨h1, -⟩ := hcs k hlt;clear hcs;by_cases hq : xs[k] = n
   ·have hqB : (xs[k] == n) = true := by simp [hq]
    have hm : hasI xs n = true := hasI_iff.2 (by rw [← hq]; exact List.getElem_mem _);have HM := hide hm;clear hq hm;go_wp2_with fail
    go_ret;exact ⟨by rw [HM.out]; rfl, rfl⟩
   ·have hqB : (xs[k] == n) = false := by simp [hq]
    have HQ := hide hq;clear hq;go_wp2_with fail
    go_round
    case rel =>
     refine ⟨k + 1, by omega, by go_num, fun j hj hjk => ?_⟩;rcases Nat.lt_or_ge j k with h | h
     ·exact Ha.out j hj h
     ·obtain rfl : j = k := by omega
      exact HQ.out
    case measure => simp [intOf]; omega
  ·have hm : hasI xs n = false := by
    rw [hasI_false];intro hx;obtain ⟨j, hj, e⟩ := List.getElem_of_mem hx;exact Ha.out j hj (by omega) e
   have HM := hide hm;clear hm;go_wp2_with fail
   go_ret;exact ⟨by rw [HM.out]; rfl, rfl⟩
theorem contains_hasI (xs : List Int) (n : Int) : xs.contains n = hasI xs n := by
 rw [Bool.eq_iff_iff, hasI_iff]; simp
theorem getD_eq {xs : List Int} {j : Nat} (h : j < xs.length) : xs.getD j 0 = xs[j] := by simp [h]
theorem contains_any (ao : Option Addr) (cap k : Nat) (xs : List Int) (lo hi : Nat) (n : Int) (w : World) (h : IntsAt lo hi w (.slice ao xs.length cap) xs) (hk : k ≤ xs.length) :
 Calls Tryz.prog 146 #[.slice ao k cap, .int .i64 n] w fun e w' => e = .returned (.bool (hasI (xs.take k) n)) ∧ w = w' := by
 rcases Nat.eq_zero_or_pos k with rfl | hk0
 ·exact (Tryz.slices_Contains_int_empty ao cap n w).mono fun e w' ⟨he, hw⟩ => ⟨by rw [he]; rfl, hw.symm⟩
 ·have hlen := h.len
  obtain ⟨ao', cap', e, a1, a2, a3, a4⟩ := h;simp only [Value.slice.injEq] at e;obtain ⟨rfl, -, rfl⟩ := e;obtain ⟨b, o, rfl, hb1, hb2, hc⟩ := a4 (by omega);exact (Tryz.slices_Contains_int b o k cap xs n w hk (by omega) (fun j hj => by rw [(hc j hj).1, getD_eq hj])).mono fun e w' ⟨he, hw⟩ => ⟨by rw [he, contains_hasI], hw.symm⟩
theorem grow_any (n : Nat) (h0 : 0 < n) (h1 : n ≤ 1000) (w : World) :
 Calls Tryz.prog 156 #[.slice none 0 0, .int .i64 n] w fun e w' => ∃ cap, e = .returned (.slice (some ⟨w.heap.size, 0, none⟩) 0 cap) ∧ w'.ownsRow w.heap.size 3 1 (.slice (some ⟨w.heap.size, 0, none⟩) 0 cap) 0 [] ∧ Below w.heap.size w w' := by
 obtain ⟨i0, hi0, hz0, hi1, hi2⟩ := info_parts info_int;have hn0 : (0 : Int) < (n : Int) := by omega
 have hrun := Lib.run_append_nil_zeros (P := Tryz.prog) w 27 3 27 3 i0 (.int .i64 0) .i64 .i64 Tryz.underlying27 Tryz.underlying3 hi0 hz0 n h0 (by omega) (by omega) (by rw [hi2]; omega);have hge := grownCap_ge w n 0 3;have hle := grownCap_le_maxLen w n 0 3 (by unfold maxLen; omega);obtain ⟨cap, hcap⟩ : ∃ cap, grownCap w n 0 3 = cap := ⟨_, rfl⟩;rw [hcap] at hrun hge hle;have HR := hide hrun;unfold maxLen at hle;have hwr : IntKind.i64.wrap (n : Int) = n := by rw [IntWalk.i64_in] <;> omega
 clear hrun hcap hi1 hi2 hz0;go_enter Tryz.func156, Tryz.ntmps156;go_wp2_with (at_builtin; refine Lib.wpList_append_run w rfl _ _ 27 3 rfl (.slice none 0 0) (.int .i64 n) rfl rfl _ _ HR.out ?_)
 go_wp2_with fail
 go_ret;refine ⟨cap, rfl, ?_, by go_grown⟩;have hw : ∀ cs : Array Value, cs.size = cap → (w.drew.alloc (.cells cs 3)).ownsRow w.heap.size 3 1 (.slice (some ⟨w.heap.size, 0, none⟩) 0 cap) 0 [] := fun cs hcs =>
  ⟨rfl, .inr ⟨w.heap.size, cap, cs, rfl, Nat.le_refl _, heap_alloc_new w.drew _, Nat.zero_le _, by unfold maxLen; omega, by omega, by simp⟩⟩
 exact hw _ (by simp [size_zeroCells]; omega)
def IntsNew (base : Nat) (xs : List Int) (w : World) (e : Ending) (w' : World) : Prop := ∃ v, e = .returned v ∧ w'.ownsRow base 3 1 v xs.length (flatI xs) ∧ Below base w w'
def cat2 (xs ys : List Int) (k : Nat) : List Int := if k = 0 then [] else if k = 1 then xs else xs ++ ys
theorem flatI_len (a : List Int) : (flatI a).length = a.length := by simp [flatI]
theorem concat_any (B T : Nat) (l h : Value) (xs ys : List Int) (w : World) (hr : RowL w B T [l, h]) (Hl : IntsAt 0 w.heap.size w l xs) (Hh : IntsAt 0 w.heap.size w h ys) (h0 : 0 < xs.length + ys.length) (h1 : xs.length + ys.length ≤ 1000) :
 Calls Tryz.prog 104 #[.slice (some ⟨B, 0, none⟩) 2 2] w (IntsNew w.heap.size (xs ++ ys) w) := by
 have HL := hide Hl;have HH := hide Hh;have c0 : w.cell? ⟨B, 0, none⟩ = some l := hr.cell 0 (by simp);have c1 : w.cell? ⟨B, 1, none⟩ = some h := hr.cell 1 (by simp);have hB := hr.lt;obtain ⟨ao1, cap1, rfl, -, -, -, -⟩ := Hl;obtain ⟨ao2, cap2, rfl, -, -, -, -⟩ := Hh;obtain ⟨i0, hi0, hz0, hi1, hi2⟩ := info_parts info_int;have HR := hide hr;clear hr;go_enter Tryz.func104, Tryz.ntmps104;go_wp2_with fail
 go_loop [3, 5, 11] (fun z s i => ∃ k : Nat, k ≤ 2 ∧ i = .int .i64 k ∧ z = .int .i64 ((cat2 xs ys k).length : Nat)) (fun _ _ i => 2 - (intOf i).toNat)
 case atStart => exact ⟨0, Nat.zero_le _, rfl, rfl⟩
 case round =>
  obtain ⟨k, hk, rfl, rfl⟩ := hrel;have hk3 : k = 0 ∨ k = 1 ∨ k = 2 := by omega
  rcases hk3 with rfl | rfl | rfl
  ·have e : (cat2 xs ys 0).length = 0 := rfl
   rw [e];clear e;go_wp2_with fail
   go_round
   case rel => exact ⟨1, by omega, rfl, by go_num⟩
   case measure => simp [intOf]
  ·have e : (cat2 xs ys 1).length = xs.length := rfl
   rw [e];clear e;go_wp2_with fail
   go_round
   case rel => exact ⟨2, by omega, rfl, by simp [cat2]⟩
   case measure => simp [intOf]
  ·obtain ⟨n, hn⟩ : ∃ n, xs.length + ys.length = n := ⟨_, rfl⟩
   have e : (cat2 xs ys 2).length = n := by rw [← hn]; simp [cat2]
   rw [e];have HN := hide hn;have hn0 : 0 < n := by omega
   have hn1 : n ≤ 1000 := by omega
   clear e hn;go_wp2_with fail
   refine (grow_any n hn0 hn1 w).mono ?_;rintro e w1 ⟨cap, rfl, hown, hb1⟩;have HO := hide hown;have HB1 := hide hb1;have HR1 := hide (HR.out.below hb1 HR.out.lt);clear hown hb1 c0 c1;go_wp2_with fail
   go_loopw [6, 8, 27] (fun v s i wr => ∃ k : Nat, k ≤ 2 ∧ i = .int .i64 k ∧ wr.ownsRow w.heap.size 3 1 v (cat2 xs ys k).length (flatI (cat2 xs ys k)) ∧ Below w.heap.size w wr) (fun _ _ i _ => 2 - (intOf i).toNat)
   case atStart => exact ⟨0, by omega, rfl, by simpa [cat2, flatI] using HO.out, HB1.out⟩
   case round =>
    obtain ⟨k, hk, rfl, hown, hb⟩ := hrel;have HW := hide hown;have HBr := hide hb;obtain ⟨aov, capv, rfl, -, -⟩ := own_slice hown;have HRr := hide (HR.out.below hb HR.out.lt);have hz := hb.size;clear hown hb;have hk3 : k = 0 ∨ k = 1 ∨ k = 2 := by omega
    rcases hk3 with rfl | rfl | rfl
    ·have d0 : wr.cell? ⟨B, 0, none⟩ = some (.slice ao1 xs.length cap1) := HRr.out.cell 0 (by simp)
     have hsrc := (HL.out.below HBr.out).source;have HS := hide hsrc;clear hsrc;go_wp2_with (at_builtin; refine wpList_append_view rfl _ _ 27 rfl w.heap.size 3 i0 (.int .i64 0) 1 8 Tryz.underlying27 hi0 hz0 hi1 hi2 rfl (by decide) _ _ _ rfl HW.out _ _ _ rfl HS.out ?c1 ?c2 hz ?_)
     case c1 => unfold maxLen; simp [cat2]; omega
     case c2 => simp [cat2]; omega
     intro v2 w2 hown2 hgrow2 _;have hB2 : Below w.heap.size w w2 := HBr.out.trans (Below.grow hgrow2 HW.out nl hz);have HO2 := hide (show w2.ownsRow w.heap.size 3 1 v2 (cat2 xs ys 1).length (flatI (cat2 xs ys 1)) by simpa [cat2, flatI] using hown2);have HB2 := hide hB2;clear hown2 hgrow2 hB2 d0;go_wp2_with fail
     go_roundw
     case rel => exact ⟨1, by omega, rfl, HO2.out, HB2.out⟩
     case measure => simp [intOf]
    ·have d0 : wr.cell? ⟨B, 1, none⟩ = some (.slice ao2 ys.length cap2) := HRr.out.cell 1 (by simp)
     have hsrc := (HH.out.below HBr.out).source;have HS := hide hsrc;clear hsrc;go_wp2_with (at_builtin; refine wpList_append_view rfl _ _ 27 rfl w.heap.size 3 i0 (.int .i64 0) 1 8 Tryz.underlying27 hi0 hz0 hi1 hi2 rfl (by decide) _ _ _ rfl HW.out _ _ _ rfl HS.out ?c1 ?c2 hz ?_)
     case c1 => unfold maxLen; simp [cat2]; omega
     case c2 => simp [cat2]; omega
     intro v2 w2 hown2 hgrow2 _;have hB2 : Below w.heap.size w w2 := HBr.out.trans (Below.grow hgrow2 HW.out nl hz);have HO2 := hide (show w2.ownsRow w.heap.size 3 1 v2 (cat2 xs ys 2).length (flatI (cat2 xs ys 2)) by simpa [cat2, flatI] using hown2);have HB2 := hide hB2;clear hown2 hgrow2 hB2 d0;go_wp2_with fail
     go_roundw
     case rel => exact ⟨2, by omega, rfl, HO2.out, HB2.out⟩
     case measure => simp [intOf]
    ·go_wp2_with fail
     go_ret;exact ⟨_, rfl, by simpa [cat2] using HW.out, HBr.out⟩
end Go.Proofs.YtmemgbklgcjobaaGreatDoor
