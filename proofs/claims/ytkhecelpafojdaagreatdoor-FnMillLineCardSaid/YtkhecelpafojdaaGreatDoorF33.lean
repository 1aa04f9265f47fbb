/-
  Parts of the proofs over mills, of: TextC, TextD. Conditions: each theorem states its own.
-/
import Derived.Test.YtkhecelpafojdaaGreatDoorF26
import Derived.Test.YtkhecelpafojdaaGreatDoorF32
set_option linter.unusedSimpArgs false
set_option linter.unusedVariables false
set_option maxRecDepth 10000
set_option maxHeartbeats 64000000
namespace Go.Proofs.YtkhecelpafojdaaGreatDoor
open Go.RowKit
def dD (s : ByteArray) : List ByteArray := Lib.splitB spB 0 (Lib.countB s spB) s
theorem parts_len (s : ByteArray) : (dD s).length = Lib.countB s spB + 1 := Lib.splitB_all spB (by decide) 0 _ s rfl
theorem splitB_le (sep : ByteArray) (save : Nat) : ∀ (k : Nat) (s : ByteArray), ∀ p ∈ Lib.splitB sep save k s, p.size ≤ s.size
 | 0, s => by intro p hp; rw [Lib.splitB_zero] at hp; simp at hp; rw [hp]; exact Nat.le_refl _
 | k + 1, s => by
  intro p hp;unfold Lib.splitB at hp;split at hp
  ·simp at hp; rw [hp]; exact Nat.le_refl _
  ·rcases List.mem_cons.1 hp with h | h
   ·rw [h, ByteArray.size_extract]; omega
   ·have := splitB_le sep save k _ p h
    rw [ByteArray.size_extract] at this;omega
theorem parts_le (s : ByteArray) : ∀ p ∈ dD s, p.size ≤ s.size := splitB_le spB 0 _ s
def deedV : Option (Int × Int × Int) → Value
 | none => .tuple #[.agg #[.int .i64 0, .int .i64 0, .int .i64 0], .bool false]
 | some (k, o, t) => .tuple #[.agg #[.int .i64 k, .int .i64 o, .int .i64 t], .bool true]
def rdI (L : List ByteArray) : Option (Int × Int × Int) :=
 let k := dw (L.getD 0 ⟨#[]⟩)
 if k < 0 then none else if L.length ≠ (if jw k then 3 else 2) then none else
  match rdNum (L.getD 1 ⟨#[]⟩) with
  | none => none
  | some n => if jw k then (match rdNum (L.getD 2 ⟨#[]⟩) with | none => none | some m => some (k, n, m)) else some (k, n, 0)
def StrsAt (w : World) (b : Nat) (L : List ByteArray) : Prop := b < w.heap.size ∧ ∀ i (h : i < L.length), w.cell? ⟨b, i, none⟩ = some (.string L[i])
theorem split_any (s : ByteArray) (m : Int) (w : World) (hs : s.size < 4294967281) (hm : w.cell? ⟨1, 0, none⟩ = some (.int .i64 m)) :
 Calls Tryz.prog 62 #[.string s, .string ⟨#[32]⟩] w fun e w' => e = .returned (.slice (some ⟨w.heap.size, 0, none⟩) (dD s).length (dD s).length) ∧ StrsAt w' w.heap.size (dD s) ∧ Below w.heap.size w w' := by
 refine (Tryz.strings_Split s spB m w hs hm (by decide)).mono ?_;rintro e w' ⟨rfl, rfl⟩;rw [parts_len];refine ⟨rfl, ⟨by simp, fun i hi => ?_⟩, (Below.refl _ _).alloc nl _⟩;rw [Go.Joins.cell_alloc_mark_at _ _ _ _ _ _ rfl];simp [dD] at hi ⊢;first | (rw [List.getElem?_eq_getElem hi]; done) | (rw [List.getElem?_eq_getElem hi]; rfl) | skip
theorem kindB_range (s : ByteArray) : -1 ≤ dw s ∧ dw s ≤ 4 := by
 unfold dw
 repeat' split
 all_goals omega
theorem old_alloc {r : Nat} (W : World) (o : Obj) (i : Nat) (h : r < W.heap.size) : (W.alloc o).cell? ⟨r, i, none⟩ = W.cell? ⟨r, i, none⟩ := by
 simp only [World.cell?, World.alloc, Array.getElem?_push, Nat.ne_of_lt h, if_false]
theorem readDeed_impl (s : ByteArray) (m : Int) (w : World) (hs : s.size < 4294967281) (hm : w.cell? ⟨1, 0, none⟩ = some (.int .i64 m)) (hna : dz w) :
 Calls Tryz.prog 20 #[.string s] w fun e w' => e = .returned (deedV (rdI (dD s))) ∧ Below w.heap.size w w' := by
 have h1lt : 1 < w.heap.size := by
  rcases Nat.lt_or_ge 1 w.heap.size with h | h
  ·exact h
  ·simp [World.cell?, Array.getElem?_eq_none h] at hm
 have hpl := parts_len s;obtain ⟨L, hL⟩ : ∃ L, dD s = L := ⟨_, rfl⟩;have hle := parts_le s;have hsp := fun W h => split_any s m W hs h;rw [hL] at hpl hle;simp only [hL] at hsp;rw [hL];clear hL;have hl1 : 1 ≤ L.length := by omega
 clear hpl;obtain ⟨a0, ha0⟩ : ∃ a, L.getD 0 ⟨#[]⟩ = a := ⟨_, rfl⟩;have ha0' : L[0]'hl1 = a0 := by rw [← ha0]; simp [List.getD, List.getElem?_eq_getElem hl1]
 obtain ⟨k, hk⟩ : ∃ k, dw a0 = k := ⟨_, rfl⟩;have hkr := kindB_range a0;rw [hk] at hkr;have hK := fun W h => kindNamed_any a0 W h;rw [hk] at hK;have HL := hide hle;have HS := hide hsp;have HK := hide hK;have HA0 := hide ha0;have HA0' := hide ha0';have HKK := hide hk;clear hle hsp hK ha0 ha0' hk;go_enter Tryz.func20, Tryz.ntmps20;go_wp2_with fail
 obtain ⟨wx, hwx⟩ : ∃ wx, wx = w.alloc (Obj.cells #[Value.int IntKind.i64 0, Value.int IntKind.i64 0, Value.int IntKind.i64 0] 42) := ⟨_, rfl⟩;rw [← hwx];have hdb : Below w.heap.size w wx := by rw [hwx]; exact (Below.refl _ _).alloc nl _
 have hd0 : wx.cell? ⟨w.heap.size, 0, none⟩ = some (.int .i64 0) := by rw [hwx]; simp [go_sem]
 have hd1 : wx.cell? ⟨w.heap.size, 1, none⟩ = some (.int .i64 0) := by rw [hwx]; simp [go_sem]
 have hd2 : wx.cell? ⟨w.heap.size, 2, none⟩ = some (.int .i64 0) := by rw [hwx]; simp [go_sem]
 have hf0 : wx.frozen? ⟨w.heap.size, 0, none⟩ = false := by rw [hwx]; simp [go_sem]
 have hf1 : wx.frozen? ⟨w.heap.size, 1, none⟩ = false := by rw [hwx]; simp [go_sem]
 have hf2 : wx.frozen? ⟨w.heap.size, 2, none⟩ = false := by rw [hwx]; simp [go_sem]
 have hdl : w.heap.size < wx.heap.size := by rw [hwx]; simp
 clear hwx;refine (HS.out _ (by rw [hdb.cell h1lt]; exact hm)).mono ?_;rintro e w2 ⟨rfl, ⟨hP, hst⟩, hb2⟩;have c0 : w2.cell? ⟨w.heap.size, 0, none⟩ = some (.int .i64 0) := by rw [hb2.cell hdl]; exact hd0
 have c1 : w2.cell? ⟨w.heap.size, 1, none⟩ = some (.int .i64 0) := by rw [hb2.cell hdl]; exact hd1
 have c2 : w2.cell? ⟨w.heap.size, 2, none⟩ = some (.int .i64 0) := by rw [hb2.cell hdl]; exact hd2
 have f0 : w2.frozen? ⟨w.heap.size, 0, none⟩ = false := by rw [hb2.frozen hdl]; exact hf0
 have f1 : w2.frozen? ⟨w.heap.size, 1, none⟩ = false := by rw [hb2.frozen hdl]; exact hf1
 have f2 : w2.frozen? ⟨w.heap.size, 2, none⟩ = false := by rw [hb2.frozen hdl]; exact hf2
 have hr2 : w.heap.size < w2.heap.size := by have := hb2.size; omega
 have hB2 : Below w.heap.size w w2 := Below.step hdb hb2 nl;have hna2 := hna.stays hB2;have hal := fun W o i => old_alloc (r := w.heap.size) W o i;obtain ⟨P, hPe⟩ : ∃ P, wx.heap.size = P := ⟨_, rfl⟩;rw [hPe] at hP hst;rw [hPe];have hrP : w.heap.size ≠ P := by omega
 clear hb2 hd0 hd1 hd2 hf0 hf1 hf2 hdb hdl hPe;have p0 := hst 0 hl1;rw [HA0'.out] at p0;have HST := hide hst;clear hst;have hL0 : (0 : Int) < (L.length : Int) := by omega
 go_wp2_with fail
 refine (HK.out _ hna2).mono ?_;rintro e w3 ⟨rfl, rfl⟩;by_cases hneg : k < 0
 ·have hnB : decide (k < 0) = true := decide_eq_true hneg
  have HF := hide (show rdI L = none by unfold rdI; simp only [HA0.out, HKK.out, if_pos hneg]);go_wp2_with fail
  refine bodyPost_ret (by simp [results, Tryz.results20, go_sem, hal, hr2, c0, c1, c2]; try rfl) rfl ?_;exact ⟨by rw [HF.out]; rfl, by go_grown⟩
 have hnB : decide (k < 0) = false := decide_eq_false hneg;have hT := fun w => hasTwo_any k w;rcases htw : jw k
 ·rw [htw] at hT
  by_cases hlen : L.length = 2
  ·have hlB : ((L.length : Int) != 2) = false := by rw [hlen]; rfl
   have hl2 : (1 : Int) < (L.length : Int) := by omega
   obtain ⟨a1, ha1⟩ : ∃ a, L[1]'(by omega) = a := ⟨_, rfl⟩;have p1 := HST.out 1 (by omega);rw [ha1] at p1;have hsz1 : a1.size ≤ 9223372036854775807 := by
    have := HL.out a1 (by rw [← ha1]; exact List.getElem_mem _);omega
   have hR := fun w => ji a1 w hsz1;have hg1 : L.getD 1 ⟨#[]⟩ = a1 := by rw [← ha1]; simp [List.getD, List.getElem?_eq_getElem (show 1 < L.length by omega)]
   rcases hrn : rdNum a1 with _ | n
   ·rw [hrn] at hR
    simp only [optV] at hR;have HF := hide (show rdI L = none by unfold rdI; simp only [HA0.out, HKK.out, if_neg hneg, htw, hlen, hg1, hrn]; rfl);clear hlen hg1 ha1 hsz1 hrn;go_wp2_with fail
    refine (hT _).mono ?_;rintro e w3 ⟨rfl, rfl⟩;go_wp2_with fail
    refine (hR _).mono ?_;rintro e w3 ⟨rfl, rfl⟩;go_wp2_with fail
    refine bodyPost_ret (by simp [results, Tryz.results20, go_sem, hal, hr2, c0, c1, c2]; try rfl) rfl ?_;exact ⟨by rw [HF.out]; rfl, by go_grown⟩
   ·rw [hrn] at hR
    simp only [optV] at hR;have HF := hide (show rdI L = some (k, n, 0) by unfold rdI; simp only [HA0.out, HKK.out, if_neg hneg, htw, hlen, hg1, hrn]; rfl);clear hlen hg1 ha1 hsz1 hrn;go_wp2_with fail
    refine (hT _).mono ?_;rintro e w3 ⟨rfl, rfl⟩;go_wp2_with fail
    refine (hR _).mono ?_;rintro e w3 ⟨rfl, rfl⟩;go_wp2_with fail
    refine (hT _).mono ?_;rintro e w3 ⟨rfl, rfl⟩;go_wp2_with fail
    refine bodyPost_ret (by simp [results, Tryz.results20, go_sem, hal, hr2, c0, c1, c2]; try rfl) rfl ?_;exact ⟨by rw [HF.out]; rfl, by go_grown⟩
  ·have hlB : ((L.length : Int) != 2) = true := by simp; omega
   have HF := hide (show rdI L = none by unfold rdI; simp only [HA0.out, HKK.out, if_neg hneg, htw]; simp [hlen]);clear hlen;go_wp2_with fail
   refine (hT _).mono ?_;rintro e w3 ⟨rfl, rfl⟩;go_wp2_with fail
   refine bodyPost_ret (by simp [results, Tryz.results20, go_sem, hal, hr2, c0, c1, c2]; try rfl) rfl ?_;exact ⟨by rw [HF.out]; rfl, by go_grown⟩
 ·rw [htw] at hT
  by_cases hlen : L.length = 3
  ·have hlB : ((L.length : Int) != 3) = false := by rw [hlen]; rfl
   have hl2 : (1 : Int) < (L.length : Int) := by omega
   have hl3 : (2 : Int) < (L.length : Int) := by omega
   obtain ⟨a1, ha1⟩ : ∃ a, L[1]'(by omega) = a := ⟨_, rfl⟩;obtain ⟨a2, ha2⟩ : ∃ a, L[2]'(by omega) = a := ⟨_, rfl⟩;have p1 := HST.out 1 (by omega);rw [ha1] at p1;have p2 := HST.out 2 (by omega);rw [ha2] at p2;have hsz1 : a1.size ≤ 9223372036854775807 := by
    have := HL.out a1 (by rw [← ha1]; exact List.getElem_mem _);omega
   have hsz2 : a2.size ≤ 9223372036854775807 := by
    have := HL.out a2 (by rw [← ha2]; exact List.getElem_mem _);omega
   have hR := fun w => ji a1 w hsz1;have hR2 := fun w => ji a2 w hsz2;have hg1 : L.getD 1 ⟨#[]⟩ = a1 := by rw [← ha1]; simp [List.getD, List.getElem?_eq_getElem (show 1 < L.length by omega)]
   have hg2 : L.getD 2 ⟨#[]⟩ = a2 := by rw [← ha2]; simp [List.getD, List.getElem?_eq_getElem (show 2 < L.length by omega)]
   rcases hrn : rdNum a1 with _ | n
   ·rw [hrn] at hR
    simp only [optV] at hR;have HF := hide (show rdI L = none by unfold rdI; simp only [HA0.out, HKK.out, if_neg hneg, htw, hlen, hg1, hrn]; rfl);clear hlen hg1 ha1 hsz1 hrn hg2 ha2 hsz2 hR2;go_wp2_with fail
    refine (hT _).mono ?_;rintro e w3 ⟨rfl, rfl⟩;go_wp2_with fail
    refine (hR _).mono ?_;rintro e w3 ⟨rfl, rfl⟩;go_wp2_with fail
    refine bodyPost_ret (by simp [results, Tryz.results20, go_sem, hal, hr2, c0, c1, c2]; try rfl) rfl ?_;exact ⟨by rw [HF.out]; rfl, by go_grown⟩
   ·rw [hrn] at hR
    simp only [optV] at hR;rcases hrn2 : rdNum a2 with _ | n2
    ·rw [hrn2] at hR2
     simp only [optV] at hR2;have HF := hide (show rdI L = none by unfold rdI; simp only [HA0.out, HKK.out, if_neg hneg, htw, hlen, hg1, hrn, hg2, hrn2]; rfl);clear hlen hg1 ha1 hsz1 hrn hg2 ha2 hsz2 hrn2;go_wp2_with fail
     refine (hT _).mono ?_;rintro e w3 ⟨rfl, rfl⟩;go_wp2_with fail
     refine (hR _).mono ?_;rintro e w3 ⟨rfl, rfl⟩;go_wp2_with fail
     refine (hT _).mono ?_;rintro e w3 ⟨rfl, rfl⟩;go_wp2_with fail
     refine (hR2 _).mono ?_;rintro e w3 ⟨rfl, rfl⟩;go_wp2_with fail
     refine bodyPost_ret (by simp [results, Tryz.results20, go_sem, hal, hr2, c0, c1, c2]; try rfl) rfl ?_;exact ⟨by rw [HF.out]; rfl, by go_grown⟩
    ·rw [hrn2] at hR2
     simp only [optV] at hR2;have HF := hide (show rdI L = some (k, n, n2) by unfold rdI; simp only [HA0.out, HKK.out, if_neg hneg, htw, hlen, hg1, hrn, hg2, hrn2]; rfl);clear hlen hg1 ha1 hsz1 hrn hg2 ha2 hsz2 hrn2;go_wp2_with fail
     refine (hT _).mono ?_;rintro e w3 ⟨rfl, rfl⟩;go_wp2_with fail
     refine (hR _).mono ?_;rintro e w3 ⟨rfl, rfl⟩;go_wp2_with fail
     refine (hT _).mono ?_;rintro e w3 ⟨rfl, rfl⟩;go_wp2_with fail
     refine (hR2 _).mono ?_;rintro e w3 ⟨rfl, rfl⟩;go_wp2_with fail
     refine bodyPost_ret (by simp [results, Tryz.results20, go_sem, hal, hr2, c0, c1, c2]; try rfl) rfl ?_;exact ⟨by rw [HF.out]; rfl, by go_grown⟩
  ·have hlB : ((L.length : Int) != 3) = true := by simp; omega
   have HF := hide (show rdI L = none by unfold rdI; simp only [HA0.out, HKK.out, if_neg hneg, htw]; simp [hlen]);clear hlen;go_wp2_with fail
   refine (hT _).mono ?_;rintro e w3 ⟨rfl, rfl⟩;go_wp2_with fail
   refine bodyPost_ret (by simp [results, Tryz.results20, go_sem, hal, hr2, c0, c1, c2]; try rfl) rfl ?_;exact ⟨by rw [HF.out]; rfl, by go_grown⟩
def glue (p : List UInt8) : List (List UInt8) → List (List UInt8)
 | [] => [p]
 | q :: qs => (p ++ q) :: qs
def bn : List UInt8 → List (List UInt8)
 | [] => [[]]
 | b :: l => if b = 32 then [] :: bn l else glue [b] (bn l)
theorem glue_ne (p : List UInt8) (c : List (List UInt8)) : glue p c ≠ [] := by cases c <;> simp [glue]
theorem jk (l : List UInt8) : bn l ≠ [] := by
 cases l with
 | nil => simp [bn]
 | cons b l => rw [bn]; split <;> simp [glue_ne]
theorem glue_nil {c : List (List UInt8)} (h : c ≠ []) : glue [] c = c := by cases c <;> simp_all [glue]
theorem glue_glue (p : List UInt8) (b : UInt8) (c : List (List UInt8)) (h : c ≠ []) : glue p (glue [b] c) = glue (p ++ [b]) c := by cases c <;> simp_all [glue]
theorem glue_sep (p : List UInt8) (l : List UInt8) : glue p (bn (32 :: l)) = p :: bn l := by
 rw [bn, if_pos rfl]; simp [glue]
theorem glue_other (p : List UInt8) (b : UInt8) (l : List UInt8) (h : b ≠ 32) : glue p (bn (b :: l)) = glue (p ++ [b]) (bn l) := by
 rw [bn, if_neg h, glue_glue _ _ _ (jk l)]
def je (base : Nat) (w : World) (v : Value) (xs : List ByteArray) : Prop :=
 (∃ g cap, v = .slice (some ⟨g, 0, none⟩) xs.length cap ∧ xs.length ≤ cap ∧ cap ≤ 9223372036854775807) ∧ w.ownsRow base 9 1 v xs.length (xs.map Value.string)
theorem je.new (base : Nat) (w : World) (hb : base ≤ w.heap.size) : je base (w.alloc (.cells #[] 9)) (.slice (some ⟨w.heap.size, 0, none⟩) 0 0) [] := by
 refine ⟨⟨_, _, rfl, Nat.le_refl _, by simp⟩, ?_⟩;have := World.ownsRow_lit (e := 9) (size := 1) w #[] 0 hb (by unfold maxLen; omega) (by simp);simpa using this
theorem je.grown {base : Nat} {w w' : World} {v v' : Value} {xs : List ByteArray} {y : ByteArray} {o : Obj} (hw : je base w v xs) (hz : base ≤ w.heap.size)
 (hown : w'.ownsRow base 9 1 v' (xs.length + 1) (xs.map Value.string ++ [.string y])) (hg : (w.alloc o).grownBy w' v.ownBlock) :
 Below base w w' ∧ je base w' v' (xs ++ [y]) := by
 have hB : Below base w w' := ((Below.refl _ _).alloc hz _).grown hg (Nat.le_trans hz (by simp)) fun k hk => (hw.2.lt k hk).1;have h : w'.ownsRow base 9 1 v' (xs ++ [y]).length ((xs ++ [y]).map Value.string) := by simpa using hown
 refine ⟨hB, ?_, h⟩;rcases h.2 with ⟨_, e⟩ | ⟨g, cap, cur, e, _, _, h1, h2, _⟩
 ·simp at e
 ·exact ⟨g, cap, e, h1, by unfold maxLen at h2; exact h2⟩
theorem je.strs {base : Nat} {w : World} {v : Value} {xs : List ByteArray} (h : je base w v xs) : ∃ g cap, v = .slice (some ⟨g, 0, none⟩) xs.length cap ∧ xs.length ≤ cap ∧ cap ≤ 9223372036854775807 ∧ base ≤ g ∧ StrsAt w g xs := by
 obtain ⟨⟨g, cap, rfl, hc1, hc2⟩, ho⟩ := h;have hlt := ho.lt g rfl;refine ⟨g, cap, rfl, hc1, hc2, hlt.1, hlt.2, fun i hi => ?_⟩;rcases ho.2 with ⟨e, _⟩ | ⟨g', cap', cur, e, _, hb, _, _, h3, h4⟩
 ·cases e
 ·simp only [Value.slice.injEq, Option.some.injEq, Addr.mk.injEq] at e
  obtain ⟨⟨rfl, -, -⟩, -, rfl⟩ := e;rw [Go.Joins.cell_of_block hb];have h5 := congrArg (·[i]?) h4
  simp only [List.getElem?_map, List.getElem?_eq_getElem hi, Nat.mul_one, Option.map_some] at h5;rw [List.getElem?_take_of_lt (by omega)] at h5;simpa using h5
theorem info_str : (Tryz.prog.info? 9).map (fun i => (i.zero, i.size, i.bytes)) = some (some (.string ⟨#[]⟩), 1, 16) := by kernel_rfl
theorem info_split {o : Option TypeInfo} {a : Option Value} {b c : Nat} (h : o.map (fun i => (i.zero, i.size, i.bytes)) = some (a, b, c)) : ∃ i, o = some i ∧ i.zero = a ∧ i.size = b ∧ i.bytes = c := by
 obtain ⟨i, h1, h2⟩ := Option.map_eq_some_iff.1 h;simp only [Prod.mk.injEq] at h2;exact ⟨i, h1, h2.1, h2.2.1, h2.2.2⟩
theorem lit1 (w : World) (v : Value) (T : Nat) : ∀ j u, [v][j]? = some u → (w.alloc (.cells #[v] T)).cell? ((⟨w.heap.size, 0, none⟩ : Addr).add j) = some u := by
 intro j u hu;have hj : j = 0 := by
  cases j with
  | zero => rfl
  | succ n => simp at hu
 subst hj;simp at hu;subst hu;have hadd : (⟨w.heap.size, 0, none⟩ : Addr).add 0 = ⟨w.heap.size, 0, none⟩ := by simp [Addr.add]
 rw [hadd, Go.Joins.cell_alloc_mark_at _ _ _ _ _ _ rfl];rfl
def CutGot (s : ByteArray) (w : World) (e : Ending) (w' : World) : Prop :=
 ∃ (xs : List ByteArray) (g cap : Nat), e = .returned (.slice (some ⟨g, 0, none⟩) xs.length cap) ∧ xs.map (·.data.toList) = bn s.data.toList ∧ xs.length ≤ cap ∧ cap ≤ 9223372036854775807 ∧ w.heap.size ≤ g ∧ StrsAt w' g xs ∧ Below w.heap.size w w'
theorem ext_data (s : ByteArray) (f k : Nat) : (s.extract f k).data.toList = (s.data.toList.drop f).take (k - f) := Lib.extract_data s f k
theorem l1Cut_any (s : ByteArray) (w : World) (hs : s.size < 4294967281) :
 Calls Tryz.prog 76 #[.string s, .int .u8 32] w (CutGot s w) := by
 obtain ⟨i0, hi0, hz0, hi1, hi2⟩ := info_split info_str;have HN := hide (je.new w.heap.size w nl);go_enter Tryz.func76, Tryz.ntmps76;go_wp2_with fail
 go_loopw [5, 6, 7] (fun o f i wr => ∃ (ps : List ByteArray) (a k : Nat), k ≤ s.size ∧ a ≤ k ∧ ps.length ≤ k ∧ i = .int .i64 k ∧ f = .int .i64 a ∧ Below w.heap.size w wr ∧ je w.heap.size wr o ps ∧
  bn s.data.toList = ps.map (·.data.toList) ++ glue ((s.data.toList.drop a).take (k - a)) (bn (s.data.toList.drop k))) (fun _ _ i _ => s.size - (intOf i).toNat)
 case atStart => exact ⟨[], 0, 0, Nat.zero_le _, Nat.le_refl _, by simp, rfl, rfl, (Below.refl _ _).alloc nl _, HN.out, by simp [glue_nil (jk _)]⟩
 case round =>
  obtain ⟨ps, a, k, hk, hak, hpk, rfl, rfl, hb, hown, heq⟩ := hrel;have HB := hide hb;have HO := hide hown;have HE := hide heq;obtain ⟨⟨g, cap, rfl, hc1, hc2⟩, -⟩ := hown;have hzr : w.heap.size ≤ wr.heap.size := hb.size;clear hb heq;by_cases hlt : k < s.size
  ·have hki : (k : Int) < (s.size : Int) := by omega
   have hk0 : (0 : Int) ≤ (k : Int) := by omega
   have HD := hide (drop_byte s k hlt);obtain ⟨u, hu⟩ : ∃ u, s[k]'hlt = u := ⟨_, rfl⟩;rw [hu] at HD;obtain ⟨b, hb⟩ : ∃ b : Nat, u.toNat = b := ⟨_, rfl⟩;by_cases h32 : b = 32
   ·subst h32
    have hu32 : u = 32 := by
     apply UInt8.toNat_inj.1;rw [hb]; rfl
    have HE2 := hide (show bn s.data.toList = (ps ++ [s.extract a k]).map (·.data.toList) ++ glue ((s.data.toList.drop (k + 1)).take (k + 1 - (k + 1))) (bn (s.data.toList.drop (k + 1))) by
     rw [HE.out, HD.out, hu32, glue_sep, Nat.sub_self, List.take_zero, glue_nil (jk _)];simp)
    have ha0 : (0 : Int) ≤ (a : Int) := by omega
    have haki : (a : Int) ≤ (k : Int) := by omega
    have hksi : (k : Int) ≤ (s.size : Int) := by omega
    clear hu32;go_wp2_with (at_builtin; refine wpList_append_own _ rfl _ _ _ rfl w.heap.size 9 i0 _ 1 16 Tryz.underlying89 hi0 hz0 hi1 hi2 rfl (by decide) _ ps.length (ps.map Value.string) rfl (HO.out.2.alloc _) ⟨wr.heap.size, 0, none⟩ 1 1 [.string (s.extract a k)] rfl rfl (lit1 wr _ _) ?g3 ?g4 ?g5 ?g6 ?_)
    case g3 => intro u hu; rw [List.mem_singleton] at hu; subst hu; rfl
    case g4 => unfold maxLen; omega
    case g5 => omega
    case g6 => exact Nat.le_trans hzr (by simp)
    intro v4 w4 hown4 hgrow4 _;obtain ⟨hB, hI⟩ := je.grown HO.out hzr hown4 hgrow4;have HI := hide hI;have HB4 := hide (HB.out.trans hB);clear hown4 hgrow4 hB;obtain ⟨⟨g4, cap4, rfl, hd1, hd2⟩, -⟩ := hI;go_wp2_with fail
    go_roundw
    case rel => exact ⟨ps ++ [s.extract a k], k + 1, k + 1, by omega, Nat.le_refl _, by simp; omega, by go_num, by go_num, HB4.out, HI.out, HE2.out⟩
    case measure => simp [intOf]; omega
   ·have hbB : ((b : Int) == 32) = false := by simp; omega
    have hu32 : u ≠ 32 := fun e => h32 (by rw [← hb, e]; rfl);have HE2 := hide (show bn s.data.toList = ps.map (·.data.toList) ++ glue ((s.data.toList.drop a).take (k + 1 - a)) (bn (s.data.toList.drop (k + 1))) by
     rw [HE.out, HD.out, glue_other _ _ _ hu32];congr 2;rw [show k + 1 - a = (k - a) + 1 by omega, List.take_add_one];congr 1;have e1 : (s.data.toList.drop a)[k - a]? = (s.data.toList.drop k)[0]? := by
      rw [List.getElem?_drop, List.getElem?_drop];congr 1; omega
     rw [e1, HD.out];rfl)
    clear hu32;go_wp2_with fail
    go_roundw
    case rel => exact ⟨ps, a, k + 1, by omega, by omega, by omega, by go_num, rfl, HB.out, HO.out, HE2.out⟩
    case measure => simp [intOf]; omega
  ·have hkn : k = s.size := by omega
   have ha0 : (0 : Int) ≤ (a : Int) := by omega
   have hasi : (a : Int) ≤ (s.size : Int) := by omega
   have HE2 := hide (show (ps ++ [s.extract a s.size]).map (·.data.toList) = bn s.data.toList by
    rw [HE.out, hkn, List.drop_of_length_le (Nat.le_of_eq (bD s))];simp [bn, glue])
   have hkB : decide ((k : Int) < (s.size : Int)) = false := by simp; omega
   go_wp2_with (at_builtin; refine wpList_append_own _ rfl _ _ _ rfl w.heap.size 9 i0 _ 1 16 Tryz.underlying89 hi0 hz0 hi1 hi2 rfl (by decide) _ ps.length (ps.map Value.string) rfl (HO.out.2.alloc _) ⟨wr.heap.size, 0, none⟩ 1 1 [.string (s.extract a s.size)] rfl rfl (lit1 wr _ _) ?g3 ?g4 ?g5 ?g6 ?_)
   case g3 => intro u hu; rw [List.mem_singleton] at hu; subst hu; rfl
   case g4 => unfold maxLen; omega
   case g5 => omega
   case g6 => exact Nat.le_trans hzr (by simp)
   intro v4 w4 hown4 hgrow4 _;obtain ⟨hB, hI⟩ := je.grown HO.out hzr hown4 hgrow4;have HB4 := hide (HB.out.trans hB);clear hown4 hgrow4 hB;obtain ⟨g4, cap4, rfl, hd1, hd2, hd3, hd4⟩ := hI.strs;have HD4 := hide hd4;clear hd4 hI;go_wp2_with fail
   go_ret;exact ⟨_, g4, cap4, rfl, HE2.out, hd1, hd2, hd3, HD4.out, HB4.out⟩
end Go.Proofs.YtkhecelpafojdaaGreatDoor
