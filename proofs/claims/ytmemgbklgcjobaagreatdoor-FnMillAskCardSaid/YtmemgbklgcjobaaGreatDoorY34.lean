/-
  Parts of the proofs over mills, of: PlainMill, Shelf, PlainLaw, PiecesA, TextA, AskP, GradeT, PostV. Conditions: each theorem states its own.
-/
import Derived.Test.YtmemgbklgcjobaaGreatDoorCards
import Derived.Test.YtmemgbklgcjobaaGreatDoorTie
import Derived.Deep.DeepHandedRow
import Derived.LaidMore
import Derived.OpenVars
import Derived.Stop.LaidErr
import Derived.Test.YtmemgbklgcjobaaGreatDoorY18
import Derived.Test.YtmemgbklgcjobaaGreatDoorY19
set_option linter.unusedSimpArgs false
set_option linter.unusedVariables false
set_option maxRecDepth 10000
set_option maxHeartbeats 64000000
namespace Go.Proofs.YtmemgbklgcjobaaGreatDoor
open Go.RowKit
def piecesR (m : Mi) (s : Int) : List Int := if millB m then idsIn m.pieces s else []
end Go.Proofs.YtmemgbklgcjobaaGreatDoor
namespace Go.Proofs
open Go.Shelf
def Tryz.lays156_ren : Go.Shelf.Ren := ⟨fun | 156 => 176 | 165 => 211 | 166 => 212 | 169 => 213 | 240 => 234 | 241 => 235 | 276 => 248 | 277 => 249 | n => n, fun | 31 => 138 | 9 => 9 | 3 => 3 | 4 => 4 | 0 => 0 | 20 => 20 | 72 => 209 | 76 => 213 | 70 => 207 | 37 => 22 | 75 => 212 | 127 => 229 | 164 => 240 | 5 => 5 | 80 => 215 | n => n, fun | n => n⟩
theorem Tryz.lays156 : Go.Proofs.Lays.n156 Tryz.prog Tryz.lays156_ren := {
 mixed := by kernel_rfl
 f156 := Tryz.func176.trans (congrArg some (by kernel_rfl))
 f165 := Tryz.func211.trans (congrArg some (by kernel_rfl))
 f166 := Tryz.func212.trans (congrArg some (by kernel_rfl))
 f169 := Tryz.func213.trans (congrArg some (by kernel_rfl))
 f240 := Tryz.func234.trans (congrArg some (by kernel_rfl))
 f241 := Tryz.func235.trans (congrArg some (by kernel_rfl))
 f276 := Tryz.func248.trans (congrArg some (by kernel_rfl))
 f277 := Tryz.func249.trans (congrArg some (by kernel_rfl))
 t0 := Tryz.underlying0
 a0 := Tryz.isAgg0
 z0 := Tryz.sizeOf0
 v0 := Tryz.zeroValue0
 t3 := Tryz.underlying3
 a3 := Tryz.isAgg3
 z3 := Tryz.sizeOf3
 v3 := Tryz.zeroValue3
 t4 := Tryz.underlying4
 a4 := Tryz.isAgg4
 z4 := Tryz.sizeOf4
 v4 := Tryz.zeroValue4
 t9 := Tryz.underlying9
 a9 := Tryz.isAgg9
 z9 := Tryz.sizeOf9
 v9 := Tryz.zeroValue9
 t20 := Tryz.underlying20
 a20 := Tryz.isAgg20
 z20 := Tryz.sizeOf20
 v20 := Tryz.zeroValue20
 t31 := Tryz.underlying138
 a31 := Tryz.isAgg138
 z31 := Tryz.sizeOf138
 v31 := Tryz.zeroValue138
 t37 := Tryz.underlying22
 a37 := Tryz.isAgg22
 z37 := Tryz.sizeOf22
 v37 := Tryz.zeroValue22
 t70 := Tryz.underlying207
 a70 := Tryz.isAgg207
 z70 := Tryz.sizeOf207
 v70 := Tryz.zeroValue207
 t72 := Tryz.underlying209
 a72 := Tryz.isAgg209
 z72 := Tryz.sizeOf209
 v72 := Tryz.zeroValue209
 t75 := Tryz.underlying212
 a75 := Tryz.isAgg212
 z75 := Tryz.sizeOf212
 v75 := Tryz.zeroValue212
 t76 := Tryz.underlying213
 a76 := Tryz.isAgg213
 z76 := Tryz.sizeOf213
 v76 := Tryz.zeroValue213
 t127 := Tryz.underlying229
 a127 := Tryz.isAgg229
 z127 := Tryz.sizeOf229
 v127 := Tryz.zeroValue229
 t164 := Tryz.underlying240
 a164 := Tryz.isAgg240
 z164 := Tryz.sizeOf240
 v164 := Tryz.zeroValue240 }
theorem Tryz.Builder_Extra_156 : Builder.Extra Tryz.prog Tryz.lays156_ren := {
 sizeBuilder := by kernel_rfl
 liesBuilder := by kernel_rfl
 t5 := Tryz.underlying5
 a5 := Tryz.isAgg5
 z5 := Tryz.sizeOf5
 v5 := Tryz.zeroValue5
 infoByte := by kernel_rfl
 cellsByte := by kernel_rfl
 sizeByte := by kernel_rfl
 neB5 := by decide }
open Go.RowKit in
theorem Tryz.strings_Join (bk o c : Nat) (xs : List ByteArray) (sep : ByteArray) (w : World) (hcells : ∀ (j : Nat) x, xs[j]? = some x → w.cell? ⟨bk, o + j, none⟩ = some (.string x)) (hbk : bk < w.heap.size) (hN : xs.length ≤ 140737488355328) (hcap : xs.length ≤ c) (hlen : (Lib.join (xs.map (·.data.toList)) sep.data.toList).length ≤ 140737488355328) :
 Calls Tryz.prog 176 #[.slice (some ⟨bk, o, none⟩) xs.length c, .string sep] w fun e w' => e = .returned (.string ⟨(Lib.join (xs.map (·.data.toList)) sep.data.toList).toArray⟩) ∧ Below w.heap.size w w' := Any.strings_Join Tryz.lays156 Tryz.Builder_Extra_156 bk o c xs sep w hcells hbk hN hcap hlen
def Tryz.laysM171_ren : Go.Shelf.Ren := ⟨fun | 171 => 80 | 243 => 144 | 246 => 184 | 283 => 222 | 284 => 223 | 285 => 224 | 286 => 225 | 129 => 196 | 317 => 241 | 318 => 242 | 319 => 243 | 320 => 244 | 337 => 251 | 338 => 252 | n => n, fun | 3 => 3 | 9 => 9 | 2 => 2 | 4 => 4 | 171 => 218 | 0 => 0 | 53 => 197 | 37 => 22 | 5 => 5 | 173 => 220 | 212 => 235 | 51 => 195 | 20 => 20 | 213 => 236 | 46 => 169 | 232 => 247 | 233 => 248 | n => n, fun | 17 => 2 | 18 => 5 | 19 => 6 | n => n⟩
theorem Tryz.laysM171 : Go.Proofs.LaysM.n171 Tryz.prog Tryz.laysM171_ren := {
 mixed := by kernel_rfl
 f129 := Tryz.func196.trans (congrArg some (by kernel_rfl))
 f171 := Tryz.func80.trans (congrArg some (by kernel_rfl))
 f243 := Tryz.func144.trans (congrArg some (by kernel_rfl))
 f246 := Tryz.func184.trans (congrArg some (by kernel_rfl))
 f283 := Tryz.func222.trans (congrArg some (by kernel_rfl))
 f284 := Tryz.func223.trans (congrArg some (by kernel_rfl))
 f285 := Tryz.func224.trans (congrArg some (by kernel_rfl))
 f286 := Tryz.func225.trans (congrArg some (by kernel_rfl))
 f317 := Tryz.func241.trans (congrArg some (by kernel_rfl))
 f318 := Tryz.func242.trans (congrArg some (by kernel_rfl))
 f319 := Tryz.func243.trans (congrArg some (by kernel_rfl))
 f320 := Tryz.func244.trans (congrArg some (by kernel_rfl))
 f337 := Tryz.func251.trans (congrArg some (by kernel_rfl))
 f338 := Tryz.func252.trans (congrArg some (by kernel_rfl))
 t0 := Tryz.underlying0
 a0 := Tryz.isAgg0
 z0 := Tryz.sizeOf0
 v0 := Tryz.zeroValue0
 t2 := Tryz.underlying2
 a2 := Tryz.isAgg2
 z2 := Tryz.sizeOf2
 v2 := Tryz.zeroValue2
 t3 := Tryz.underlying3
 a3 := Tryz.isAgg3
 z3 := Tryz.sizeOf3
 v3 := Tryz.zeroValue3
 t4 := Tryz.underlying4
 a4 := Tryz.isAgg4
 z4 := Tryz.sizeOf4
 v4 := Tryz.zeroValue4
 t5 := Tryz.underlying5
 a5 := Tryz.isAgg5
 z5 := Tryz.sizeOf5
 v5 := Tryz.zeroValue5
 t9 := Tryz.underlying9
 a9 := Tryz.isAgg9
 z9 := Tryz.sizeOf9
 v9 := Tryz.zeroValue9
 t20 := Tryz.underlying20
 a20 := Tryz.isAgg20
 z20 := Tryz.sizeOf20
 v20 := Tryz.zeroValue20
 t37 := Tryz.underlying22
 a37 := Tryz.isAgg22
 z37 := Tryz.sizeOf22
 v37 := Tryz.zeroValue22
 t46 := Tryz.underlying169
 a46 := Tryz.isAgg169
 z46 := Tryz.sizeOf169
 v46 := Tryz.zeroValue169
 t51 := Tryz.underlying195
 a51 := Tryz.isAgg195
 z51 := Tryz.sizeOf195
 v51 := Tryz.zeroValue195
 t53 := Tryz.underlying197
 a53 := Tryz.isAgg197
 z53 := Tryz.sizeOf197
 v53 := Tryz.zeroValue197
 t171 := Tryz.underlying218
 a171 := Tryz.isAgg218
 z171 := Tryz.sizeOf218
 v171 := Tryz.zeroValue218
 t173 := Tryz.underlying220
 a173 := Tryz.isAgg220
 z173 := Tryz.sizeOf220
 v173 := Tryz.zeroValue220
 t212 := Tryz.underlying235
 a212 := Tryz.isAgg235
 z212 := Tryz.sizeOf235
 v212 := Tryz.zeroValue235
 t213 := Tryz.underlying236
 a213 := Tryz.isAgg236
 z213 := Tryz.sizeOf236
 t232 := Tryz.underlying247
 a232 := Tryz.isAgg247
 z232 := Tryz.sizeOf247
 v232 := Tryz.zeroValue247
 t233 := Tryz.underlying248
 a233 := Tryz.isAgg248
 z233 := Tryz.sizeOf248
 v233 := Tryz.zeroValue248
 g17 := by kernel_rfl
 g18 := by kernel_rfl
 g19 := by kernel_rfl
 i0 := by kernel_rfl
 i2 := by kernel_rfl
 i3 := by kernel_rfl
 i4 := by kernel_rfl
 i5 := by kernel_rfl
 i9 := by kernel_rfl
 i20 := by kernel_rfl
 i37 := by kernel_rfl
 i46 := by kernel_rfl
 i51 := by kernel_rfl
 i53 := by kernel_rfl
 i171 := by kernel_rfl
 i173 := by kernel_rfl
 i212 := by kernel_rfl
 i232 := by kernel_rfl
 i233 := by kernel_rfl
 m17 := by kernel_rfl
 m18 := by kernel_rfl
 m19 := by kernel_rfl }
open Go.RowKit Go.Sort Go.Lib in
theorem Tryz.strconv_Itoa (n : Int) (h0 : -9223372036854775808 ≤ n) (h1 : n ≤ 9223372036854775807) (w : World) (htab : Lib.TabIs Tryz.prog w "internal/strconv.uint64pow10" .u64 Lib.pow10Tab) :
 Calls Tryz.prog 80 #[.int .i64 n] w fun e w' => e = .returned (.string ⟨(Lib.itoa n).toArray⟩) ∧ ∃ k os, w' = grow (w.drewN k) os := Any.strconv_Itoa Tryz.laysM171 n h0 h1 w htab
end Go.Proofs
namespace Go.Proofs.YtmemgbklgcjobaaGreatDoor
open Go.RowKit
theorem long_bd2 {l : List Pc} (h : ∀ k, k < l.length → pcB (l.getD k pc0) = true) : ∀ n, n ≤ l.length → 0 ≤ longTo l n ∧ longTo l n ≤ 60 * n
 | 0, _ => by simp [longTo]
 | n + 1, hn => by
  have := long_bd2 h n (by omega);have := (pcB_iff.1 (h n (by omega))).1;simp only [longTo]; omega
theorem mass_ge {m : Mi} (h : MillV m) : m.strand + m.scrap ≤ massI m ∧ massI m ≤ 10000 ∧ 0 ≤ massI m := by
 have h1 := stock_bd h.store m.store.length nl;have h2 := long_bd2 h.pcs m.pieces.length nl;have h3 := stsB_len h.store;have h4 := h.len;have h5 := h.st0;have h6 := h.st1;have h7 := h.sc0;have h8 := h.sc1;unfold massI;omega
theorem pieces_few {m : Mi} (s : Int) : (piecesR m s).length ≤ 30 := by
 unfold piecesR;split
 ·rename_i h
  have := idsTo_len m.pieces s m.pieces.length;have := (millB_iff.1 h).len;unfold idsIn; omega
 ·exact Nat.zero_le _
theorem pieces_impl (s p l h : Value) (m : Mi) (st : Int) (w : World) (H : MillIn 0 w.heap.size w s p l h m) :
 Calls Tryz.prog 29 #[millV s p l h m, .int .i64 st] w (IntsNew w.heap.size (piecesR m st) w) := by
 obtain ⟨ao1, cap1, rfl, -, -, -, -⟩ := id H.store;obtain ⟨ao2, cap2, rfl, -, -, -, -⟩ := id H.pieces;obtain ⟨ao3, cap3, rfl, -, -, -, -⟩ := id H.low;obtain ⟨ao4, cap4, rfl, -, -, -, -⟩ := id H.high;have hpl := H.pieces.len;unfold millV;go_enter Tryz.func29, Tryz.ntmps29;go_wp2_with fail
 refine calls_at fun wx hwx => ?_;have A_0 : RowL wx (w.heap.size) 31 [.slice ao1 m.store.length cap1, .int .i64 m.rule.lc, .int .i64 m.rule.hc, .int .i64 m.rule.lm, .int .i64 m.rule.hm, .int .i64 m.rule.ls, .int .i64 m.rule.hs, .int .i64 m.strand, .slice ao2 m.pieces.length cap2, .slice ao3 m.low.length cap3, .slice ao4 m.high.length cap4, .int .i64 m.scrap] := by rw [hwx]; exact (RowL.new _ _ _)
 have B_0 : Below w.heap.size w wx := by rw [hwx]; go_grown
 clear hwx;have hL0 := A_0.lt;have VV_0 := hide (H.below B_0);have KV := mill_impl _ _ _ _ m wx VV_0.out.all;cases hv : millB m with
 | false =>
  rw [hv] at KV;refine KV.mono ?_;rintro e w1 ⟨rfl, hb⟩;have HB := hide (Below.step B_0 hb nl);have HF := hide (show piecesR m st = [] by simp [piecesR, hv]);clear hb KV hv;go_wp2_with fail
  go_ret;exact ⟨_, rfl, by rw [HF.out]; exact World.ownsRow_nil _ _ _ _, HB.out⟩
 | true =>
  rw [hv] at KV;have HF := hide (show piecesR m st = idsIn m.pieces st by simp [piecesR, hv]);have h5 := (millB_iff.1 hv).len;clear hv;refine (KV).mono ?_;rintro e w1 ⟨rfl, hb⟩;have A_1 := A_0.below hb A_0.lt;have VV_1 := hide (VV_0.out.below hb);have B_1 := hide (Below.step B_0 hb nl);have hz1 := hb.size;clear hb;have cA8 := A_1.c 8 rfl;clear KV;have hzw := B_1.out.size;go_wp2_with fail
  refine (idsIn_any _ m.pieces st _ _ w1 VV_1.out.pieces (by omega)).mono ?_;rintro e w2 ⟨v, rfl, hown, hb⟩;have HB := hide (Below.step B_1.out hb nl);have HO := hide (ownsRow_mono hown hzw);clear hown hb;go_wp2_with fail
  go_ret;exact ⟨_, rfl, by rw [HF.out]; exact HO.out, HB.out⟩
theorem itoa_any (n : Int) (h0 : -9223372036854775808 ≤ n) (h1 : n ≤ 9223372036854775807) (w : World) (hp : PowIs w) :
 Calls Tryz.prog 80 #[.int .i64 n] w fun e w' => e = .returned (.string (numB n)) ∧ Below w.heap.size w w' :=
 (Tryz.strconv_Itoa n h0 h1 w hp).mono fun e w' ⟨he, k, os, hw⟩ => ⟨he, by rw [hw]; exact Lib.below_grow _ _ nl _ _⟩
def comB : ByteArray := ⟨#[44]⟩
def hyB : ByteArray := ⟨#[45]⟩
def slB : ByteArray := ⟨#[47]⟩
def noneB : ByteArray := ⟨#[110, 111, 110, 101]⟩
def whatB : ByteArray := ⟨#[119, 104, 97, 116]⟩
def qB (k : Nat) : ByteArray :=
 if k == 0 then ⟨#[115, 116, 114, 97, 110, 100]⟩ else if k == 1 then ⟨#[115, 99, 114, 97, 112]⟩ else if k == 2 then ⟨#[109, 97, 115, 115]⟩ else if k == 3 then ⟨#[115, 108, 97, 98, 115]⟩ else if k == 4 then ⟨#[99, 111, 105, 108, 115]⟩ else if k == 5 then ⟨#[103, 111, 110, 101]⟩ else ⟨#[103, 114, 97, 100, 101]⟩
def joinN (ids : List Int) : ByteArray := ⟨(Lib.join (ids.map fun n => (numB n).data.toList) [44]).toArray⟩
theorem join_snoc (xs : List (List UInt8)) (y sep : List UInt8) : Lib.join (xs ++ [y]) sep = if xs = [] then y else Lib.join xs sep ++ (sep ++ y) := by
 obtain _ | ⟨x, r⟩ := xs
 ·simp [Lib.join_one]
 ·simp [Lib.join_cons, Lib.joinTail]
theorem joinN_nil : joinN [] = ⟨#[]⟩ := rfl
theorem joinN_first (n : Int) : joinN ([] ++ [n]) = numB n := by
 apply ByteArray.ext;simp [joinN, Lib.join_one]
theorem joinN_snoc {ids : List Int} (h : ids ≠ []) (n : Int) : joinN (ids ++ [n]) = joinN ids ++ comB ++ numB n := by
 apply ByteArray.ext;have h' : ids.map (fun n => (numB n).data.toList) ≠ [] := by simpa using h
 simp only [joinN, List.map_append, List.map_cons, List.map_nil, join_snoc, if_neg h'];apply Array.ext';simp [comB]
theorem rev_ind {α : Type} {p : List α → Prop} (h0 : p []) (h1 : ∀ xs x, p xs → p (xs ++ [x])) (l : List α) : p l := by
 have : ∀ r : List α, p r.reverse := fun r => by
  induction r with
  | nil => exact h0
  | cons x r ih => rw [List.reverse_cons]; exact h1 _ _ ih
 have h := this l.reverse
 rwa [List.reverse_reverse] at h
theorem joinN_size {B : Nat} (ids : List Int) : (∀ n ∈ ids, (numB n).size ≤ B) → (joinN ids).size ≤ ids.length * (B + 1) :=
 rev_ind (p := fun ids => (∀ n ∈ ids, (numB n).size ≤ B) → (joinN ids).size ≤ ids.length * (B + 1)) (fun _ => by rw [joinN_nil]; exact Nat.zero_le _) (fun xs n ih h => by
  have h1 := ih fun x hx => h x (by simp [hx]);have h2 := h n (by simp);rw [List.length_append, List.length_cons, List.length_nil, Nat.succ_mul];by_cases e : xs = []
  ·subst e; rw [joinN_first]; simp; omega
  ·rw [joinN_snoc e]
   simp only [ByteArray.size_append];have : comB.size = 1 := rfl;omega) ids
theorem numB_pos {n : Int} (h : 0 ≤ n) : 0 < (numB n).size := by
 obtain ⟨k, rfl⟩ : ∃ k : Nat, n = k := ⟨n.toNat, by omega⟩;by_cases hk : k < 10
 ·rw [← numB_small k hk]; exact Nat.zero_lt_one
 ·rw [← numB_big k hk]
  simp only [ByteArray.size_append];have : (⟨#[UInt8.ofNat (48 + ((k % 10 : Nat) : Int)).toNat]⟩ : ByteArray).size = 1 := rfl;omega
theorem joinN_pos (ids : List Int) : ids ≠ [] → (∀ n ∈ ids, 0 ≤ n) → 0 < (joinN ids).size :=
 rev_ind (p := fun ids => ids ≠ [] → (∀ n ∈ ids, 0 ≤ n) → 0 < (joinN ids).size) (fun h => absurd rfl h) (fun xs n _ _ h0 => by
  have h2 := numB_pos (h0 n (by simp));by_cases e : xs = []
  ·subst e; rw [joinN_first]; exact h2
  ·rw [joinN_snoc e]
   simp only [ByteArray.size_append]; omega) ids
def idsB (ids : List Int) : ByteArray := if ids = [] then noneB else joinN ids
def rangeB (a b : Int) : ByteArray := numB a ++ hyB ++ numB b
def gradeB (g : Gr) : ByteArray := if grB g then rangeB g.lc g.hc ++ slB ++ rangeB g.lm g.hm ++ slB ++ rangeB g.ls g.hs else ⟨#[]⟩
def askB (m : Mi) (q : ByteArray) : ByteArray :=
 if millB m then
  if q = qB 0 then numB m.strand else if q = qB 1 then numB m.scrap else if q = qB 2 then numB (massR m)
  else if q = qB 3 then idsB (piecesR m 0) else if q = qB 4 then idsB (piecesR m 1) else if q = qB 5 then idsB (piecesR m 2)
  else if q = qB 6 then gradeB m.rule else whatB
 else ⟨#[]⟩
structure KeptG (S : World → Prop) where
 wd : World
 ok : S wd
theorem wp_region_cls {P : Program} {id : Nat} {Q : Exit → Act → World → Prop} {a : Act} {w : World} {l : List Oper} {C : World → Prop} (hm : P.follows .mixedOrders = true) (hB : Region.lexB .any l.toArray = true) (hC : C { w with drawn := w.drawn + 1 })
 (h : wpQuiet P l.toArray C (fun a' => ∀ w', C w' → Q .normal a' w') l a) : (Code.region id l.toArray true).wp P Q a w :=
 wp_region_quiet hm hB hC (by simpa using h)
def BoxG (w : World) (A : Nat) (g : Gr) (W : World) : Prop := RowL W A 25 [.int .i64 g.lc, .int .i64 g.hc, .int .i64 g.lm, .int .i64 g.hm, .int .i64 g.ls, .int .i64 g.hs] ∧ Below w.heap.size w W
theorem boxG_call {w : World} {A : Nat} {g : Gr} {P : Program} {f : FuncId} {args : Array Value} {r : Value}
 (H : ∀ W, Below w.heap.size w W → Calls P f args W fun e w' => e = .returned r ∧ Below W.heap.size W w') (n : KeptG (BoxG w A g)) :
 Calls P f args n.wd fun e w' => e = .returned r ∧ ∃ m : KeptG (BoxG w A g), w' = m.wd :=
 (H n.wd n.ok.2).mono fun _ w' ⟨he, hb⟩ => ⟨he, ⟨w', n.ok.1.below hb n.ok.1.lt, Below.step n.ok.2 hb nl⟩, rfl⟩
theorem num_999 {n : Int} (h0 : 0 ≤ n) (h1 : n ≤ 999) : (numB n).size ≤ 21 := numB_len n (by omega) (by omega)
theorem range_impl (a b : Int) (ha : 0 ≤ a ∧ a ≤ 999) (hb : 0 ≤ b ∧ b ≤ 999) (w : World) (hp : PowIs w) :
 Calls Tryz.prog 135 #[.int .i64 a, .int .i64 b] w fun e w' => e = .returned (.string (rangeB a b)) ∧ Below w.heap.size w w' := by
 have h1 := num_999 ha.1 ha.2;have h2 := num_999 hb.1 hb.2;have hs1 : ¬ 9223372036854775807 < (numB a).size + 1 := by omega
 have hs2 : ¬ 9223372036854775807 < (numB a).size + 1 + (numB b).size := by omega
 clear h1 h2;go_enter Tryz.func135, Tryz.ntmps135;go_wp2_with fail
 refine (itoa_any a (by omega) (by omega) w hp).mono ?_;rintro e w1 ⟨rfl, hb1⟩;go_wp2_with fail
 refine (itoa_any b (by omega) (by omega) w1 (hp.stays hb1)).mono ?_;rintro e w2 ⟨rfl, hb2⟩;go_wp2_with fail
 go_ret;exact ⟨rfl, Below.step hb1 hb2 nl⟩
theorem grade_impl (g : Gr) (w : World) (hp : PowIs w) :
 Calls Tryz.prog 72 #[grV g] w fun e w' => e = .returned (.string (gradeB g)) ∧ Below w.heap.size w w' := by
 have HP := hide hp;have hg := fun W => grv_impl g W;unfold grV at hg ⊢;go_enter Tryz.func72, Tryz.ntmps72;go_wp2_with fail
 refine calls_at fun wx hwx => ?_;have A_0 : RowL wx (w.heap.size) 25 [.int .i64 g.lc, .int .i64 g.hc, .int .i64 g.lm, .int .i64 g.hm, .int .i64 g.ls, .int .i64 g.hs] := by rw [hwx]; exact (RowL.new _ _ _)
 have B_0 : Below w.heap.size w wx := by rw [hwx]; go_grown
 clear hwx;have k1 := hg wx;clear hg hp;cases hv : grB g with
 | false =>
  rw [hv] at k1;have HZ := hide (show gradeB g = ⟨#[]⟩ by simp [gradeB, hv]);clear hv;refine k1.mono ?_;rintro e w1 ⟨rfl, hb⟩;have B_1 := hide (Below.step B_0 hb nl);clear hb k1;go_wp2_with fail
  go_ret;exact ⟨by rw [HZ.out]; rfl, B_1.out⟩
 | true =>
  rw [hv] at k1;have HZ := hide (show gradeB g = rangeB g.lc g.hc ++ slB ++ rangeB g.lm g.hm ++ slB ++ rangeB g.ls g.hs by simp [gradeB, hv]);obtain ⟨⟨a1, a2⟩, ⟨b1, b2⟩, ⟨c1, c2⟩, ⟨d1, d2⟩, ⟨e1, e2⟩, f1, f2⟩ := grB_iff.1 hv;clear hv;refine k1.mono ?_;rintro e w1 ⟨rfl, hb⟩;have A_1 := A_0.below hb A_0.lt;have B_1 := hide (Below.step B_0 hb nl);have HP1 := hide (HP.out.stays B_1.out);clear hb k1;have hI : BoxG w1 w.heap.size g w1.drew := ⟨A_1.drew, (Below.refl _ _).drew⟩;obtain ⟨RR, hRR⟩ : ∃ RR, BoxG w1 w.heap.size g = RR := ⟨_, rfl⟩;have hK0 : ∀ n : KeptG RR, BoxG w1 w.heap.size g n.wd := by rw [← hRR]; exact fun n => n.ok
  have hc1 := boxG_call (A := w.heap.size) (g := g) fun W (k : Below w1.heap.size w1 W) => range_impl g.lc g.hc ⟨by omega, by omega⟩ ⟨by omega, by omega⟩ W (HP1.out.stays k);have hc2 := boxG_call (A := w.heap.size) (g := g) fun W (k : Below w1.heap.size w1 W) => range_impl g.lm g.hm ⟨by omega, by omega⟩ ⟨by omega, by omega⟩ W (HP1.out.stays k);have hc3 := boxG_call (A := w.heap.size) (g := g) fun W (k : Below w1.heap.size w1 W) => range_impl g.ls g.hs ⟨by omega, by omega⟩ ⟨by omega, by omega⟩ W (HP1.out.stays k);rw [hRR] at hI hc1 hc2 hc3;have HC1 := hide hc1;have HC2 := hide hc2;have HC3 := hide hc3;have g0 : ∀ n : KeptG RR, n.wd.cell? ⟨w.heap.size, 0, none⟩ = some (.int .i64 g.lc) := fun n => (hK0 n).1.cell 0 (by simp);have g1 : ∀ n : KeptG RR, n.wd.cell? ⟨w.heap.size, 1, none⟩ = some (.int .i64 g.hc) := fun n => (hK0 n).1.cell 1 (by simp);have g2 : ∀ n : KeptG RR, n.wd.cell? ⟨w.heap.size, 2, none⟩ = some (.int .i64 g.lm) := fun n => (hK0 n).1.cell 2 (by simp);have g3 : ∀ n : KeptG RR, n.wd.cell? ⟨w.heap.size, 3, none⟩ = some (.int .i64 g.hm) := fun n => (hK0 n).1.cell 3 (by simp);have g4 : ∀ n : KeptG RR, n.wd.cell? ⟨w.heap.size, 4, none⟩ = some (.int .i64 g.ls) := fun n => (hK0 n).1.cell 4 (by simp);have g5 : ∀ n : KeptG RR, n.wd.cell? ⟨w.heap.size, 5, none⟩ = some (.int .i64 g.hs) := fun n => (hK0 n).1.cell 5 (by simp);have HB := hide (fun n : KeptG RR => (hK0 n).2);have hN0 : Nonempty (KeptG RR) := ⟨⟨_, hI⟩⟩;have rb : ∀ {a b : Int}, 0 ≤ a → a ≤ 999 → 0 ≤ b → b ≤ 999 → (rangeB a b).size ≤ 43 := fun {a b} h1 h2 h3 h4 => by
   have k1 := num_999 h1 h2;have k2 := num_999 h3 h4;have : hyB.size = 1 := rfl;simp only [rangeB, ByteArray.size_append];omega
  have n1 := rb a1 a2 (show 0 ≤ g.hc by omega) b2;have n2 := rb c1 c2 (show 0 ≤ g.hm by omega) d2;have n3 := rb e1 e2 (show 0 ≤ g.hs by omega) f2;obtain ⟨r1, hr1⟩ : ∃ r, rangeB g.lc g.hc = r := ⟨_, rfl⟩;obtain ⟨r2, hr2⟩ : ∃ r, rangeB g.lm g.hm = r := ⟨_, rfl⟩;obtain ⟨r3, hr3⟩ : ∃ r, rangeB g.ls g.hs = r := ⟨_, rfl⟩;rw [hr1] at n1 HC1 HZ;rw [hr2] at n2 HC2 HZ;rw [hr3] at n3 HC3 HZ;have s1 : ¬ 9223372036854775807 < r1.size + 1 := by omega
  have s2 : ¬ 9223372036854775807 < r1.size + 1 + r2.size := by omega
  have s3 : ¬ 9223372036854775807 < r1.size + 1 + r2.size + 1 := by omega
  have s4 : ¬ 9223372036854775807 < r1.size + 1 + r2.size + 1 + r3.size := by omega
  clear hRR hK0 hc1 hc2 hc3 rb n1 n2 n3 hr1 hr2 hr3 a1 a2 b1 b2 c1 c2 d1 d2 e1 e2 f1 f2 A_0 A_1 B_0;go_wp2_with fail
  refine wp_region_cls (C := fun w' => ∃ n : KeptG RR, w' = n.wd) (by kernel_rfl) (by kernel_rfl) ⟨⟨_, hI⟩, rfl⟩ ?_
  repeat (go_big_quiet_step (first
   | (go_at_call 135; with_reducible exact HC1.out _)
   | (go_at_call 135; with_reducible exact HC2.out _)
   | (go_at_call 135; with_reducible exact HC3.out _)))
  refine wpQuiet_nil ?_;intro _ hw';obtain ⟨nq, rfl⟩ := hw';have hbw := HB.out nq;go_wp2_with fail
  go_ret;exact ⟨by rw [HZ.out]; rfl, B_1.out.trans (hbw.mono B_1.out.size)⟩
theorem grade_spec (g : Gr) (w : World) :
 Calls Tryz.prog 123 #[grV g] w fun e w' => e = .returned (.string (gradeB g)) ∧ Below w.heap.size w w' := by
 have hg := fun W => grv_spec g W;unfold grV at hg ⊢;go_enter Tryz.func123, Tryz.ntmps123;go_wp2_with fail
 refine calls_at fun wx hwx => ?_;have A_0 : RowL wx (w.heap.size) 25 [.int .i64 g.lc, .int .i64 g.hc, .int .i64 g.lm, .int .i64 g.hm, .int .i64 g.ls, .int .i64 g.hs] := by rw [hwx]; exact (RowL.new _ _ _)
 have B_0 : Below w.heap.size w wx := by rw [hwx]; go_grown
 clear hwx;have k1 := hg wx;clear hg;cases hv : grB g with
 | false =>
  rw [hv] at k1;have HZ := hide (show gradeB g = ⟨#[]⟩ by simp [gradeB, hv]);clear hv;refine k1.mono ?_;rintro e w1 ⟨rfl, hb⟩;have B_1 := hide (Below.step B_0 hb nl);clear hb k1;go_wp2_with fail
  go_ret;exact ⟨by rw [HZ.out]; rfl, B_1.out⟩
 | true =>
  rw [hv] at k1;have HZ := hide (show gradeB g = rangeB g.lc g.hc ++ slB ++ rangeB g.lm g.hm ++ slB ++ rangeB g.ls g.hs by simp [gradeB, hv]);obtain ⟨⟨a1, a2⟩, ⟨b1, b2⟩, ⟨c1, c2⟩, ⟨d1, d2⟩, ⟨e1, e2⟩, f1, f2⟩ := grB_iff.1 hv;clear hv;refine k1.mono ?_;rintro e w1 ⟨rfl, hb⟩;have A_1 := A_0.below hb A_0.lt;have B_1 := hide (Below.step B_0 hb nl);clear hb k1;have hI : BoxG w1 w.heap.size g w1.drew := ⟨A_1.drew, (Below.refl _ _).drew⟩;obtain ⟨RR, hRR⟩ : ∃ RR, BoxG w1 w.heap.size g = RR := ⟨_, rfl⟩;have hK0 : ∀ n : KeptG RR, BoxG w1 w.heap.size g n.wd := by rw [← hRR]; exact fun n => n.ok
  have hc1 := boxG_call (A := w.heap.size) (g := g) fun W (_ : Below w1.heap.size w1 W) => l1Number_any g.lc (by omega) (by omega) W;have hc2 := boxG_call (A := w.heap.size) (g := g) fun W (_ : Below w1.heap.size w1 W) => l1Number_any g.hc (by omega) (by omega) W;have hc3 := boxG_call (A := w.heap.size) (g := g) fun W (_ : Below w1.heap.size w1 W) => l1Number_any g.lm (by omega) (by omega) W;have hc4 := boxG_call (A := w.heap.size) (g := g) fun W (_ : Below w1.heap.size w1 W) => l1Number_any g.hm (by omega) (by omega) W;have hc5 := boxG_call (A := w.heap.size) (g := g) fun W (_ : Below w1.heap.size w1 W) => l1Number_any g.ls (by omega) (by omega) W;have hc6 := boxG_call (A := w.heap.size) (g := g) fun W (_ : Below w1.heap.size w1 W) => l1Number_any g.hs (by omega) (by omega) W;rw [hRR] at hI hc1 hc2 hc3 hc4 hc5 hc6;have HC1 := hide hc1;have HC2 := hide hc2;have HC3 := hide hc3;have HC4 := hide hc4;have HC5 := hide hc5;have HC6 := hide hc6;have g0 : ∀ n : KeptG RR, n.wd.cell? ⟨w.heap.size, 0, none⟩ = some (.int .i64 g.lc) := fun n => (hK0 n).1.cell 0 (by simp);have g1 : ∀ n : KeptG RR, n.wd.cell? ⟨w.heap.size, 1, none⟩ = some (.int .i64 g.hc) := fun n => (hK0 n).1.cell 1 (by simp);have g2 : ∀ n : KeptG RR, n.wd.cell? ⟨w.heap.size, 2, none⟩ = some (.int .i64 g.lm) := fun n => (hK0 n).1.cell 2 (by simp);have g3 : ∀ n : KeptG RR, n.wd.cell? ⟨w.heap.size, 3, none⟩ = some (.int .i64 g.hm) := fun n => (hK0 n).1.cell 3 (by simp);have g4 : ∀ n : KeptG RR, n.wd.cell? ⟨w.heap.size, 4, none⟩ = some (.int .i64 g.ls) := fun n => (hK0 n).1.cell 4 (by simp);have g5 : ∀ n : KeptG RR, n.wd.cell? ⟨w.heap.size, 5, none⟩ = some (.int .i64 g.hs) := fun n => (hK0 n).1.cell 5 (by simp);have HB := hide (fun n : KeptG RR => (hK0 n).2);have hN0 : Nonempty (KeptG RR) := ⟨⟨_, hI⟩⟩;have n1 := num_999 (n := g.lc) (by omega) (by omega);have n2 := num_999 (n := g.hc) (by omega) (by omega);have n3 := num_999 (n := g.lm) (by omega) (by omega);have n4 := num_999 (n := g.hm) (by omega) (by omega);have n5 := num_999 (n := g.ls) (by omega) (by omega);have n6 := num_999 (n := g.hs) (by omega) (by omega);obtain ⟨r1, hr1⟩ : ∃ r, numB g.lc = r := ⟨_, rfl⟩;rw [hr1] at n1 HC1;obtain ⟨r2, hr2⟩ : ∃ r, numB g.hc = r := ⟨_, rfl⟩;rw [hr2] at n2 HC2;obtain ⟨r3, hr3⟩ : ∃ r, numB g.lm = r := ⟨_, rfl⟩;rw [hr3] at n3 HC3;obtain ⟨r4, hr4⟩ : ∃ r, numB g.hm = r := ⟨_, rfl⟩;rw [hr4] at n4 HC4;obtain ⟨r5, hr5⟩ : ∃ r, numB g.ls = r := ⟨_, rfl⟩;rw [hr5] at n5 HC5;obtain ⟨r6, hr6⟩ : ∃ r, numB g.hs = r := ⟨_, rfl⟩;rw [hr6] at n6 HC6;have HZ2 := hide (show gradeB g = r1 ++ hyB ++ r2 ++ slB ++ r3 ++ hyB ++ r4 ++ slB ++ r5 ++ hyB ++ r6 by
   rw [HZ.out]; unfold rangeB; rw [hr1, hr2, hr3, hr4, hr5, hr6]; simp only [ByteArray.append_assoc])
  have s1 : ¬ 9223372036854775807 < r1.size + 1 := by omega
  have s2 : ¬ 9223372036854775807 < r1.size + 1 + r2.size := by omega
  have s3 : ¬ 9223372036854775807 < r1.size + 1 + r2.size + 1 := by omega
  have s4 : ¬ 9223372036854775807 < r1.size + 1 + r2.size + 1 + r3.size := by omega
  have s5 : ¬ 9223372036854775807 < r1.size + 1 + r2.size + 1 + r3.size + 1 := by omega
  have s6 : ¬ 9223372036854775807 < r1.size + 1 + r2.size + 1 + r3.size + 1 + r4.size := by omega
  have s7 : ¬ 9223372036854775807 < r1.size + 1 + r2.size + 1 + r3.size + 1 + r4.size + 1 := by omega
  have s8 : ¬ 9223372036854775807 < r1.size + 1 + r2.size + 1 + r3.size + 1 + r4.size + 1 + r5.size := by omega
  have s9 : ¬ 9223372036854775807 < r1.size + 1 + r2.size + 1 + r3.size + 1 + r4.size + 1 + r5.size + 1 := by omega
  have s10 : ¬ 9223372036854775807 < r1.size + 1 + r2.size + 1 + r3.size + 1 + r4.size + 1 + r5.size + 1 + r6.size := by omega
  clear hRR hK0 hc1 n1 hr1 hc2 n2 hr2 hc3 n3 hr3 hc4 n4 hr4 hc5 n5 hr5 hc6 n6 hr6 a1 a2 b1 b2 c1 c2 d1 d2 e1 e2 f1 f2 A_0 A_1 B_0;go_wp2_with fail
  refine wp_region_cls (C := fun w' => ∃ n : KeptG RR, w' = n.wd) (by kernel_rfl) (by kernel_rfl) ⟨⟨_, hI⟩, rfl⟩ ?_
  repeat (go_big_quiet_step (first
   | (go_at_call 122; with_reducible exact HC1.out _)
   | (go_at_call 122; with_reducible exact HC2.out _)
   | (go_at_call 122; with_reducible exact HC3.out _)
   | (go_at_call 122; with_reducible exact HC4.out _)
   | (go_at_call 122; with_reducible exact HC5.out _)
   | (go_at_call 122; with_reducible exact HC6.out _)))
  refine wpQuiet_nil ?_;intro _ hw';obtain ⟨nq, rfl⟩ := hw';have hbw := HB.out nq;go_wp2_with fail
  go_ret;exact ⟨by rw [HZ2.out]; rfl, B_1.out.trans (hbw.mono B_1.out.size)⟩
end Go.Proofs.YtmemgbklgcjobaaGreatDoor
namespace Go.Proofs.YtmemgbklgcjobaaGreatDoor
open Go.ChangeShapes Go.WideShapes Go.Deep Go.RowKit
theorem pow_of {W : World} {rest : List (String × DataW Unit)} (h : laidMet Tryz.prog (("internal/strconv.uint64pow10", Rows.laid_internal_strconv_uint64pow10) :: rest) W) : PowIs W :=
 Lib.tabIs_of_head (zs := Lib.pow10Tab) g_pow (t := ((Tryz.prog.globals[2]?).map (·.type)).getD 0) (by kernel_rfl) (e := 197) (n := 20) (by kernel_rfl) (by kernel_rfl) (by kernel_rfl) (by kernel_rfl) h
end Go.Proofs.YtmemgbklgcjobaaGreatDoor
