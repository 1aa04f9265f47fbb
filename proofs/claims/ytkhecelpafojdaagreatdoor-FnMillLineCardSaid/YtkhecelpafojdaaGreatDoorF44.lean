/-
  Parts of the proofs over mills, of: PlainJ, JournC, DoI1, MassB. Conditions: each theorem states its own.
-/
import Derived.Test.YtkhecelpafojdaaGreatDoorF41
import Derived.Test.YtkhecelpafojdaaGreatDoorF42
set_option linter.unusedSimpArgs false
set_option linter.unusedVariables false
set_option maxRecDepth 10000
set_option maxHeartbeats 64000000
namespace Go.Proofs.YtkhecelpafojdaaGreatDoor
open Go.RowKit
def nlB : ByteArray := ⟨#[10]⟩
def dtJ (d : J) : ByteArray := dtB d.s d.d d.g
def gy (d : J) : Bool := (dtJ d).size != 0
def fT (l : List J) : Nat → ByteArray
 | 0 => ⟨#[]⟩
 | k + 1 => fT l k ++ dtJ (l.getD k ⟨0, 0, 0⟩) ++ nlB
def jtR (l : List J) : ByteArray := if decide (l.length ≤ 99) && l.all gy then fT l l.length else ⟨#[]⟩
def rdL (l : List UInt8) : Option J := (rdI (dD ⟨l.toArray⟩)).map fun (k, o, t) => ⟨k, o, t⟩
def fI : Nat → List UInt8 → List J × Nat
 | 0, _ => ([], 0)
 | f + 1, l => if 10 ∈ l then (match rdL (l.takeWhile (· != 10)) with
  | none => ([], 0)
  | some d => (d :: (fI f (l.drop ((l.takeWhile (· != 10)).length + 1))).1, (l.takeWhile (· != 10)).length + 1 + (fI f (l.drop ((l.takeWhile (· != 10)).length + 1))).2)) else ([], 0)
def rjR (s : ByteArray) : List J × Nat := fI 99 s.data.toList
theorem rdL_iff {l : List UInt8} {d : J} : rdL l = some d ↔ l ≠ [] ∧ (dtJ d).data.toList = l := by
 unfold rdL;rw [Option.map_eq_some_iff];have hd : (⟨l.toArray⟩ : ByteArray).data.toList = l := by simp
 have hsz : (⟨l.toArray⟩ : ByteArray).size = l.length := by rw [← bD, hd]
 constructor
 ·rintro ⟨⟨k, o, t⟩, h, rfl⟩
  obtain ⟨h1, h2⟩ := (rdI_iff (ja _) k o t).1 h;refine ⟨fun e => h1 (by rw [hsz, e]; rfl), ?_⟩;show (dtB k o t).data.toList = l
  rw [h2, hd]
 ·rintro ⟨h1, h2⟩
  refine ⟨(d.s, d.d, d.g), (rdI_iff (ja _) d.s d.d d.g).2 ⟨?_, ?_⟩, rfl⟩
  ·rw [hsz]; exact fun e => h1 (List.length_eq_zero_iff.1 e)
  ·apply ext_list; rw [hd]; exact h2
theorem tw_app {a l : List UInt8} (h : 10 ∉ a) : (a ++ 10 :: l).takeWhile (· != 10) = a := by
 rw [List.takeWhile_append_of_pos]
 ·simp
 ·intro x hx
  simp only [bne_iff_ne, ne_eq];rintro rfl; exact h hx
theorem rj_line {f : Nat} {d : J} {a l : List UInt8} (hd : rdL a = some d) (h : 10 ∉ a) : fI (f + 1) (a ++ 10 :: l) = (d :: (fI f l).1, a.length + 1 + (fI f l).2) := by
 have hm : 10 ∈ a ++ 10 :: l := by simp
 rw [fI, if_pos hm, tw_app h, hd];simp only;rw [show (a ++ 10 :: l).drop (a.length + 1) = l by rw [List.drop_append]; simp]
theorem split10 {l : List UInt8} (h : 10 ∈ l) : ∃ a r, l = a ++ 10 :: r ∧ 10 ∉ a := by
 induction l with
 | nil => cases h
 | cons b l ih =>
  by_cases hb : b = 10
  ·subst hb; exact ⟨[], l, rfl, by simp⟩
  ·obtain ⟨a, r, e, hn⟩ := ih ((List.mem_cons.1 h).resolve_left fun e => hb e.symm)
   refine ⟨b :: a, r, by rw [e]; rfl, ?_⟩;simp only [List.mem_cons, not_or];exact ⟨fun e => hb e.symm, hn⟩
theorem rj_cases (f : Nat) (l : List UInt8) : fI f l = ([], 0) ∨ ∃ f' d a r, f = f' + 1 ∧ l = a ++ 10 :: r ∧ 10 ∉ a ∧ rdL a = some d ∧ fI f l = (d :: (fI f' r).1, a.length + 1 + (fI f' r).2) := by
 cases f with
 | zero => exact .inl rfl
 | succ f =>
  by_cases h : 10 ∈ l
  ·obtain ⟨a, r, rfl, hn⟩ := split10 h
   cases hd : rdL a with
   | none =>
    left;rw [fI, if_pos h, tw_app hn, hd]
   | some d => exact .inr ⟨f, d, a, r, rfl, rfl, hn, hd, rj_line hd hn⟩
  ·left
   rw [fI, if_neg h]
theorem rj_le : ∀ (f : Nat) (l : List UInt8), (fI f l).2 ≤ l.length ∧ (fI f l).1.length ≤ f ∧ (fI f l).1.length ≤ (fI f l).2 := by
 intro f
 induction f with
 | zero => intro l; simp [fI]
 | succ f ih =>
  intro l;rcases rj_cases (f + 1) l with e | ⟨f', d, a, r, hf, rfl, hn, hd, e⟩
  ·rw [e]; simp
  ·obtain rfl : f = f' := by omega
   have := ih r;rw [e];simp only [List.length_append, List.length_cons]; omega
theorem textTo_data (l : List J) : ∀ k, k ≤ l.length → (fT l k).data.toList = ((l.take k).map fun d => (dtJ d).data.toList ++ [10]).flatten
 | 0, _ => by simp [fT]
 | k + 1, hk => by
  have ih := textTo_data l k (by omega);have hg : l.getD k ⟨0, 0, 0⟩ = l[k] := by simp [List.getD, List.getElem?_eq_getElem (show k < l.length by omega)]
  rw [fT, hg];simp only [ByteArray.data_append, Array.toList_append, ih];rw [List.take_succ_eq_append_getElem (show k < l.length by omega), List.map_append, List.flatten_append];simp [nlB, -List.map_take]
theorem jt_good {l : List J} (h : (jtR l).size ≠ 0) : l.length ≤ 99 ∧ (∀ d ∈ l, gy d = true) ∧ jtR l = fT l l.length := by
 unfold jtR at h ⊢;split at h
 ·rename_i hc
  rw [Bool.and_eq_true, decide_eq_true_iff, List.all_eq_true] at hc;exact ⟨hc.1, hc.2, by rw [if_pos (by rw [Bool.and_eq_true, decide_eq_true_iff, List.all_eq_true]; exact hc)]⟩
 ·exact absurd rfl h
theorem rj_back : ∀ (f : Nat) (l : List UInt8), (∀ d ∈ (fI f l).1, gy d = true) ∧ ((fI f l).1.map fun d => (dtJ d).data.toList ++ [10]).flatten = l.take (fI f l).2 := by
 intro f
 induction f with
 | zero => intro l; simp [fI]
 | succ f ih =>
  intro l;rcases rj_cases (f + 1) l with e | ⟨f', d, a, r, hf, rfl, hn, hd, e⟩
  ·rw [e]; simp
  ·obtain rfl : f = f' := by omega
   obtain ⟨i1, i2⟩ := ih r;obtain ⟨d1, d2⟩ := rdL_iff.1 hd;rw [e];constructor
   ·intro x hx
    rcases List.mem_cons.1 hx with rfl | hx
    ·unfold gy
     rw [bne_iff_ne, ← bD, d2];exact fun e => d1 (List.length_eq_zero_iff.1 e)
    ·exact i1 x hx
   ·simp only [List.map_cons, List.flatten_cons, d2, i2]
    rw [show a ++ 10 :: r = (a ++ [10]) ++ r by simp, show a.length + 1 + (fI f r).2 = (a ++ [10]).length + (fI f r).2 by simp];rw [List.take_length_add_append]
theorem rj_good (s : ByteArray) : ∀ d ∈ (rjR s).1, gy d = true := (rj_back 99 s.data.toList).1
theorem jt_back (s : ByteArray) : (jtR (rjR s).1).data.toList = s.data.toList.take (rjR s).2 := by
 obtain ⟨h1, h2⟩ := rj_back 99 s.data.toList;have hl := (rj_le 99 s.data.toList).2.1;unfold jtR;rw [if_pos (by rw [Bool.and_eq_true, decide_eq_true_iff, List.all_eq_true]; exact ⟨hl, h1⟩), textTo_data _ _ nl, List.take_of_length_le nl];exact h2
theorem dtJ_len (d : J) : (dtJ d).size ≤ 60 := by
 unfold dtJ dtB;split
 ·rename_i h
  simp only [Bool.and_eq_true, aN] at h;obtain ⟨-, h2, h3, -⟩ := h;have n1 := name_len d.s;have n2 := gm d.d (by omega) (by omega);have n3 := gm d.g (by omega) (by omega);have n4 : spB.size = 1 := rfl;split
  ·simp only [ByteArray.size_append]; omega
  ·simp only [ByteArray.size_append]; omega
 ·exact Nat.zero_le _
theorem textTo_len (l : List J) : ∀ k, (fT l k).size ≤ 61 * k
 | 0 => by show (⟨#[]⟩ : ByteArray).size ≤ 0; decide
 | k + 1 => by
  have h1 := textTo_len l k;have h2 := dtJ_len (l.getD k ⟨0, 0, 0⟩);have h3 : nlB.size = 1 := rfl;simp only [fT, ByteArray.size_append]; omega
theorem jt_of {l : List J} (h1 : l.length ≤ 99) (h2 : ∀ k, k < l.length → gy (l.getD k ⟨0, 0, 0⟩) = true) : jtR l = fT l l.length := by
 unfold jtR;rw [if_pos];rw [Bool.and_eq_true, decide_eq_true_iff, List.all_eq_true];refine ⟨h1, fun d hd => ?_⟩;obtain ⟨k, hk, rfl⟩ := List.getElem_of_mem hd;have := h2 k hk
 rwa [List.getD_eq_getElem?_getD, List.getElem?_eq_getElem hk] at this
theorem jt_bad {l : List J} {k : Nat} (hk : k < l.length) (h2 : gy (l.getD k ⟨0, 0, 0⟩) = false) : jtR l = ⟨#[]⟩ := by
 unfold jtR;rw [if_neg];rw [Bool.and_eq_true, List.all_eq_true];rintro ⟨-, h⟩;have := h _ (List.getElem_mem hk);rw [List.getD_eq_getElem?_getD, List.getElem?_eq_getElem hk] at h2;rw [show gy l[k] = false from h2] at this;cases this
theorem jt_long {l : List J} (h : 99 < l.length) : jtR l = ⟨#[]⟩ := by
 unfold jtR;rw [if_neg];rw [Bool.and_eq_true, decide_eq_true_iff];omega
theorem good_size {d : J} : (dtJ d).toList.isEmpty = !gy d := by
 unfold gy;rw [ByteArray.toList_eq];cases h : (dtJ d).data.toList with
 | nil =>
  have : (dtJ d).size = 0 := by rw [← bD, h]; rfl
  simp [this]
 | cons a l =>
  have : (dtJ d).size ≠ 0 := by rw [← bD, h]; simp
  simp [this]
theorem journalText_spec (v : Value) (js : List J) (lo hi : Nat) (w : World) (H : bz lo hi w v js) :
 Calls Tryz.prog 36 #[v] w fun e w' => e = .returned (.string (jtR js)) ∧ Below w.heap.size w w' := by
 have hjl := H.len;obtain ⟨ao, cap, rfl, hlc, hcap, hhi, hc⟩ := H;have HC := hide hc;clear hc;go_enter Tryz.func36, Tryz.ntmps36;go_wp2_with fail
 go_loopw [3, 4] (fun s i wr => ∃ k : Nat, k ≤ js.length ∧ i = .int .i64 k ∧ s = .string (fT js k) ∧ Below w.heap.size w wr ∧ (∀ j, j < k → gy (js.getD j ⟨0, 0, 0⟩) = true) ∧ (k = 0 ∨ js.length ≤ 99)) (fun _ i _ => js.length - (intOf i).toNat)
 case atStart => exact ⟨0, Nat.zero_le _, rfl, rfl, Below.refl _ _, fun _ h => absurd h (Nat.not_lt_zero _), .inl rfl⟩
 case round =>
  obtain ⟨k, hk, rfl, rfl, hb, hall, hko⟩ := hrel;have HB := hide hb;have HA := hide hall;have HK := hide hko;clear hall hko;by_cases hlt : k < js.length
  ·obtain ⟨b, o, rfl, -, hblt, hcs⟩ := HC.out (by omega)
   obtain ⟨⟨r1, r2, r3⟩, -⟩ := hcs k hlt;rw [← hb.cell (p := ⟨b, _, none⟩) (Nat.lt_of_lt_of_le hblt hhi)] at r1 r2 r3;have hg : js.getD k ⟨0, 0, 0⟩ = js[k] := by simp [hlt]
   obtain ⟨x, hx⟩ : ∃ x, js[k].s = x := ⟨_, rfl⟩;obtain ⟨y, hy⟩ : ∃ y, js[k].d = y := ⟨_, rfl⟩;obtain ⟨z, hz'⟩ : ∃ z, js[k].g = z := ⟨_, rfl⟩;have hd : js.getD k ⟨0, 0, 0⟩ = ⟨x, y, z⟩ := by rw [hg, ← hx, ← hy, ← hz']
   rw [hx] at r1;rw [hy] at r2;rw [hz'] at r3;have hkI : (k : Int) < (js.length : Int) := by omega
   have HD := hide hd;have hbb : b < wr.heap.size := Nat.lt_of_lt_of_le (Nat.lt_of_lt_of_le hblt hhi) hb.size;clear hcs hx hy hz' hg hd hb;go_wp2_with fail
   refine (jW x y z _).mono ?_;rintro e w1 ⟨rfl, hb1⟩;rw [← hb1.cell (p := ⟨b, _, none⟩) hbb] at r1 r2 r3;have HB1 := bs HB.out hb1;have hds := jW x y z w1;have he := good_size (d := ⟨x, y, z⟩);obtain ⟨D, hD⟩ : ∃ D : ByteArray, dtB x y z = D := ⟨_, rfl⟩;have hDj : dtJ ⟨x, y, z⟩ = D := hD;rw [hDj] at he;rw [hD] at hds ⊢;have hDl : D.size ≤ 60 := by rw [← hDj]; exact dtJ_len _
   have htl := textTo_len js k;have HT := hide (show fT js (k + 1) = fT js k ++ D ++ nlB by rw [fT, HD.out, hDj]);clear hb1 hD;cases hgd : gy ⟨x, y, z⟩ with
   | false =>
    rw [hgd] at he;have HJ := hide (jt_bad hlt (by rw [HD.out]; exact hgd));clear hDj hgd;go_wp2_with fail
    go_ret;exact ⟨by rw [HJ.out]; rfl, HB1.out⟩
   | true =>
    rw [hgd] at he;have HA2 := hide (dn HA.out (by rw [HD.out]; exact hgd));clear hDj hgd;by_cases hlong : 99 < js.length
    ·have hlI : (99 : Int) < (js.length : Int) := by omega
     have HJ := hide (jt_long hlong);go_wp2_with fail
     go_ret;exact ⟨by rw [HJ.out]; rfl, HB1.out⟩
    have hlI : ¬ (99 : Int) < (js.length : Int) := by omega
    go_wp2_with fail
    refine hds.mono ?_;rintro e w2 ⟨rfl, hb2⟩;have HB2 := bs HB1.out hb2;have hs1 : ¬ 9223372036854775807 < (fT js k).size + D.size := by omega
    have hs2 : ¬ 9223372036854775807 < (fT js k ++ D).size + (⟨#[10]⟩ : ByteArray).size := by
     rw [ByteArray.size_append, show (⟨#[10]⟩ : ByteArray).size = 1 from rfl]; omega
    clear hb2 hds r1 r2 r3;go_wp2_with fail
    go_roundw
    case rel => exact ⟨k + 1, by omega, by go_num, by rw [HT.out]; rfl, HB2.out, HA2.out, .inr (by omega)⟩
    case measure => simp [intOf]; omega
  ·obtain rfl : k = js.length := by omega
   have HJ := hide (show jtR js = fT js js.length from jt_of (by rcases HK.out with h | h <;> omega) HA.out);clear hb;go_wp2_with fail
   go_ret;exact ⟨by rw [HJ.out]; rfl, HB.out⟩
theorem do_i1 (s p l h : Value) (m : Mi) (a b : Int) (w : World) (H : aM 0 w.heap.size w s p l h m) (ha : a ≤ 9223372036854775807) (hb : b ≤ 9223372036854775807) :
 Calls Tryz.prog 21 #[ag s p l h m, .agg #[.int .i64 1, .int .i64 a, .int .i64 b]] w (jg w.heap.size (doR m ⟨1, a, b⟩) w) := by
 obtain ⟨ao1, cap1, ao2, cap2, ao3, cap3, ao4, cap4, rfl, rfl, rfl, rfl⟩ := H.op;have HM := hide H;clear H ha hb;unfold ag;go_enter Tryz.func21, Tryz.ntmps21;go_wp2_with fail
 refine aj fun wx hwx => ?_;have A_0 : ae wx (w.heap.size) 31 (mC ao1 cap1 ao2 cap2 ao3 cap3 ao4 cap4 m) := by rw [hwx]; exact (((ae.new _ _ _).alloc _).alloc _)
 have D_0 : ae wx (w.heap.size + 1) 42 [.int .i64 1, .int .i64 a, .int .i64 b] := by rw [hwx]; simpa using ((ae.new (World.alloc _ _) 42 [.int .i64 1, .int .i64 a, .int .i64 b]).alloc _)
 have R_0 : ae wx (w.heap.size + 1 + 1) 31 z12 := by rw [hwx]; simpa using (ae.new (World.alloc (World.alloc _ _) _) 31 z12)
 have B_0 : Below w.heap.size w wx := by rw [hwx]; go_grown
 clear hwx;have hL0 := R_0.lt;have V_0 := hide (HM.out.below B_0);have k1 := cz _ _ _ _ m wx V_0.out.all;unfold ag at k1;cases hv : aF m with
 | false =>
  rw [hv] at k1;have HZ := hide (iC hv ⟨1, a, b⟩);clear hv;refine k1.mono ?_;rintro e w1 ⟨rfl, hb⟩;have R_1 := R_0.below hb R_0.lt;have B_1 := bs B_0 hb;clear hb k1;have cRz := af R_1;have fRz := ay R_1;go_wp2_with fail
  refine bodyPost_ret (by simp [results, Tryz.results21, go_sem, cRz]; try rfl) rfl ?_;rw [HZ.out];exact ⟨_, _, _, _, rfl, bU B_1.out nl (by omega) _ _ _ _ _ _ _ _ _ _ _ _⟩
 | true =>
  rw [hv] at k1;obtain ⟨n1, n2, n3, n4⟩ := fV hv;have HV := hide hv;have hD := gD hv 1 a b;rw [step_1] at hD;clear hv;refine k1.mono ?_;rintro e w1 ⟨rfl, hb⟩;have A_1 := A_0.below hb A_0.lt;have D_1 := D_0.below hb D_0.lt;have R_1 := R_0.below hb R_0.lt;have V_1 := hide (V_0.out.below hb);have B_1 := bs B_0 hb;have hz1 := hb.size;clear hb k1;have cAz := af A_1;go_wp2_with fail
  clear cAz;have k2 := bG _ _ _ _ m w1 V_1.out.all n1 n2 n3 n4;unfold ag at k2;refine k2.mono ?_;clear k2;rintro e w2 ⟨s2, p2, l2, h2, rfl, G, hb⟩;have A_2 := A_1.below hb A_1.lt;have D_2 := D_1.below hb D_1.lt;have R_2 := R_1.below hb R_1.lt;have V_2 := hide (V_1.out.below hb);have B_2 := bs B_1.out hb;have hz2 := hb.size;have hL2 := R_2.lt;have hLD := D_2.lt;have hLA := A_2.lt;clear hb;have G_2 := hide G;obtain ⟨aS, cs, ap, cp, al, cl, ah, ch, rfl, rfl, rfl, rfl⟩ := G.op;clear G;unfold ag;have cD0 := D_2.c 0 rfl;have cD1 := D_2.c 1 rfl;have cD2 := D_2.c 2 rfl;go_wp2_with fail
  refine aj fun wy hwy => ?_;have C_y : ae wy w2.heap.size 31 (mC aS cs ap cp al cl ah ch m) := by
   rw [hwy];first
    | exact ae.alloc (ae.new w2 31 (mC aS cs ap cp al cl ah ch m)) _
    | exact ae.alloc (dU (ae.new w2 31 z12) rfl _ _ _ _ _ _ _ _ _ _ _ _) _
  have hby : Below w2.heap.size w2 wy := by
   rw [hwy];first
    | exact Below.alloc ((Below.refl _ _).alloc nl _) (by simp) _
    | exact Below.alloc (((Below.refl _ _).alloc nl _).trans ((aI w2.heap.size _ _ _ _ _ _ _ _ _ _ _ _ _).below nl (by simp))) (by simp) _
  have HV2 := hide (show au (w2.heap.size + 1) wy.heap.size wy (.slice (some ⟨w2.heap.size + 1, 0, none⟩) 2 2) [a, b] by
   rw [hwy];exact two_lit _ a b _ (by simp))
  have A_y := A_2.below hby A_2.lt;have R_y := R_2.below hby R_2.lt;have V_y := hide (V_2.out.below hby);have B_y := bs B_2.out hby;have G_y := hide (G_2.out.below hby);have hzy := hby.size;clear hwy hby;have MB : dm w1.heap.size w2.heap.size wy _ _ _ _ m := ⟨C_y, G_y.out, ⟨fun e => Nat.lt_irrefl _ (G_2.out.so.lt _ e).2, fun e => Nat.lt_irrefl _ (G_2.out.po.lt _ e).2, fun e => Nat.lt_irrefl _ (G_2.out.lo.lt _ e).2, fun e => Nat.lt_irrefl _ (G_2.out.ho.lt _ e).2⟩, hz2⟩;have k3 := cut_meth _ a b MB (aQ.1 HV.out) HV2.out ns (fun g e => Nat.lt_succ_of_lt (G_2.out.po.lt g e).2);obtain ⟨o, ho⟩ : ∃ o, cutD m a b = o := ⟨_, rfl⟩;rw [ho] at k3 hD;have HD := hide hD;clear hD ho MB cD0 cD1 cD2;refine k3.mono ?_;clear k3;rintro e w4 ⟨rfl, hb, hx⟩;have A_4 := A_y.below hb (by omega);have R_4 := R_y.below hb (by omega);have V_4 := hide (V_y.out.gW hb (by omega));have B_4 := hide (B_y.out.trans (hb.mono (by omega)));have hz4 := hb.size;clear hb;rcases o with _ | x;rotate_left
  ·obtain ⟨s4, p4, l4, h4, C_4, G⟩ := hx x rfl
   have HZ := hide (show doR m ⟨1, a, b⟩ = (x, true) from HD.out);have G_4 := hide G;obtain ⟨aS4, cs4, ap4, cp4, al4, cl4, ah4, ch4, rfl, rfl, rfl, rfl⟩ := G.op;clear G hx;unfold az at C_4;have cCz := af C_4;have cRz := af R_4;have fRz := ay R_4;go_wp2_with fail
   refine bodyPost_ret (by simp [results, Tryz.results21, go_sem, cRz]; try rfl) rfl ?_;rw [HZ.out];exact ⟨_, _, _, _, rfl, aV G_4.out B_4.out (by omega) (by omega) nl _ _ _ _ _ _ _ _ _ _ _ _⟩
  ·clear hx
   have HZ := hide (show doR m ⟨1, a, b⟩ = (m, false) from HD.out);have cAz := af A_4;go_wp2_with fail
   clear cAz;have k5 := bG _ _ _ _ m w4 V_4.out.all n1 n2 n3 n4;unfold ag at k5;refine k5.mono ?_;clear k5;rintro e w5 ⟨s5, p5, l5, h5, rfl, G, hb⟩;have R_5 := R_4.below hb R_4.lt;have B_5 := bs B_4.out hb;clear hb;have G_5 := hide G;obtain ⟨aS5, cs5, ap5, cp5, al5, cl5, ah5, ch5, rfl, rfl, rfl, rfl⟩ := G.op;clear G;unfold ag;have cRz := af R_5;have fRz := ay R_5;go_wp2_with fail
   refine bodyPost_ret (by simp [results, Tryz.results21, go_sem, cRz]; try rfl) rfl ?_;rw [HZ.out];exact ⟨_, _, _, _, rfl, aV G_5.out B_5.out (by omega) (by omega) nl _ _ _ _ _ _ _ _ _ _ _ _⟩
theorem mass_spec (s p l h : Value) (m : Mi) (w : World) (H : aM 0 w.heap.size w s p l h m) :
 Calls Tryz.prog 90 #[ag s p l h m] w fun e w' => e = .returned (.int .i64 (fw m)) ∧ Below w.heap.size w w' := by
 obtain ⟨ao1, cap1, rfl, -, -, -, -⟩ := id H.store;obtain ⟨ao2, cap2, rfl, -, -, -, -⟩ := id H.pieces;have hsl := H.store.len;have hpl := H.pieces.len;unfold ag;go_enter Tryz.func90, Tryz.ntmps90;go_wp2_with fail
 refine aj fun wx hwx => ?_;have A_0 : ae wx (w.heap.size) 31 [.slice ao1 m.store.length cap1, .int .i64 m.rule.lc, .int .i64 m.rule.hc, .int .i64 m.rule.lm, .int .i64 m.rule.hm, .int .i64 m.rule.ls, .int .i64 m.rule.hs, .int .i64 m.strand, .slice ao2 m.pieces.length cap2, l, h, .int .i64 m.scrap] := by rw [hwx]; exact (ae.new _ _ _)
 have B_0 : Below w.heap.size w wx := by rw [hwx]; go_grown
 clear hwx;have hL0 := A_0.lt;have VV_0 := hide (H.below B_0);have KV := cu _ _ _ _ m wx VV_0.out.all;cases hv : aF m with
 | false =>
  rw [hv] at KV;refine KV.mono ?_;rintro e w1 ⟨rfl, hb⟩;have HB := bs B_0 hb;have HF := hide (show fw m = -1 by simp [fw, hv]);clear hb KV hv;go_wp2_with fail
  go_ret;exact ⟨by rw [HF.out]; rfl, HB.out⟩
 | true =>
  rw [hv] at KV;have MV := aQ.1 hv;have HM := hide (show fw m = fZ m by simp [fw, hv]);have HS := hide (stock_bd MV.store);have HL := hide (long_bd MV.pcs);have h1 := MV.st0;have h2 := MV.st1;have h3 := MV.sc0;have h4 := MV.sc1;have h5 := MV.len;have h6 := dG MV.store;have HQ := hide (fun k hk => (eP.1 (stsB_at MV.store (k := k) hk)));clear MV hv;refine (KV).mono ?_;rintro e w1 ⟨rfl, hb⟩;have A_1 := A_0.below hb A_0.lt;have VV_1 := hide (VV_0.out.below hb);have B_1 := bs B_0 hb;have hz1 := hb.size;clear hb;have cA0 := A_1.c 0 rfl;have cA7 := A_1.c 7 rfl;have cA8 := A_1.c 8 rfl;have cA11 := A_1.c 11 rfl;clear KV;obtain ⟨a, ha⟩ : ∃ a, m.strand = a := ⟨_, rfl⟩;obtain ⟨b0, hb0⟩ : ∃ b, m.scrap = b := ⟨_, rfl⟩;rw [ha] at cA7 h1 h2;rw [hb0] at cA11 h3 h4;have hw0 : IntKind.i64.wrap (a + b0) = a + b0 := IntWalk.i64_in _ (by omega);have AR := hide A_1;have hzw := B_1.out.size;clear cA8;go_wp2_with fail
  clear hw0 cA0
  go_loopw [3, 4] (fun t i wr => ∃ k : Nat, k ≤ m.store.length ∧ i = .int .i64 k ∧ t = .int .i64 (a + b0 + bq m.store k) ∧ Below w1.heap.size w1 wr) (fun _ i _ => m.store.length - (intOf i).toNat)
  case atStart => exact ⟨0, Nat.zero_le _, rfl, by simp [bq], Below.refl _ _⟩
  case round =>
   obtain ⟨k, hk, rfl, rfl, hb⟩ := hrel;have HB := hide hb;have hz := hb.size;have RA := AR.out.below (w' := wr) (B := w1.heap.size) hb AR.out.lt;have cA0 := RA.c 0 rfl;have cA8 := RA.c 8 rfl;clear RA;by_cases hlt : k < m.store.length
   ·obtain ⟨_, _, e1, -, -, -, hcl⟩ := VV_1.out.store
    simp only [Value.slice.injEq] at e1;obtain ⟨rfl, -, rfl⟩ := e1;obtain ⟨b, o, rfl, -, hbl, hcs⟩ := hcl (by omega);obtain ⟨⟨r0, r1, r2, r3, r4⟩, -⟩ := hcs k hlt;rw [← hb.cell (p := ⟨b, _, none⟩) (Nat.lt_of_lt_of_le hbl (by omega))] at r0 r1 r2 r3 r4;obtain ⟨x0, hx0⟩ : ∃ x, m.store[k].c = x := ⟨_, rfl⟩;rw [hx0] at r0;obtain ⟨x1, hx1⟩ : ∃ x, m.store[k].m = x := ⟨_, rfl⟩;rw [hx1] at r1;obtain ⟨x2, hx2⟩ : ∃ x, m.store[k].s = x := ⟨_, rfl⟩;rw [hx2] at r2;obtain ⟨x3, hx3⟩ : ∃ x, m.store[k].p = x := ⟨_, rfl⟩;rw [hx3] at r3;obtain ⟨x4, hx4⟩ : ∃ x, m.store[k].k = x := ⟨_, rfl⟩;rw [hx4] at r4;have hkI : (k : Int) < (m.store.length : Int) := by omega
    have hg := (HQ.out k hlt).2;have hN : bq m.store (k + 1) = bq m.store k + 4 * x4 := by rw [bq, ← hx4]; simp [hlt]
    have hB1 := HS.out k hk;have hB2 := HS.out (k + 1) hlt;rw [hN] at hB2;obtain ⟨S, hS⟩ : ∃ S, a + b0 + bq m.store k = S := ⟨_, rfl⟩;have hS2 : a + b0 + bq m.store (k + 1) = S + 4 * x4 := by rw [hN]; omega
    have hw1 : IntKind.i64.wrap (4 * x4) = 4 * x4 := IntWalk.i64_in _ (by omega);have hw2 : IntKind.i64.wrap (S + 4 * x4) = S + 4 * x4 := IntWalk.i64_in _ (by omega);have HS2 := hide hS2;rw [hS];clear hN hB1 hB2 hS hS2 hg hcl hcs hx0 hx1 hx2 hx3 hx4 hb;go_wp2_with fail
    go_roundw
    case rel => exact ⟨k + 1, by omega, by go_num, by rw [HS2.out], HB.out⟩
    case measure => simp [intOf]; omega
   ·obtain rfl : k = m.store.length := by omega
    have HBO := hide hb;clear hb;obtain ⟨wo, hwo⟩ : ∃ wo : World, wr = wo := ⟨_, rfl⟩;subst hwo;obtain ⟨wo, rfl⟩ : ∃ wo : World, wo = wr := ⟨_, rfl⟩;have VO := hide (VV_1.out.below HBO.out);have hzo := HBO.out.size;go_wp2_with fail
    go_loopw [3, 5] (fun t i wr => ∃ k : Nat, k ≤ m.pieces.length ∧ i = .int .i64 k ∧ t = .int .i64 (a + b0 + bq m.store m.store.length + bi m.pieces k) ∧ Below wo.heap.size wo wr) (fun _ i _ => m.pieces.length - (intOf i).toNat)
    case atStart => exact ⟨0, Nat.zero_le _, rfl, by simp [bi], Below.refl _ _⟩
    case round =>
     obtain ⟨k, hk, rfl, rfl, hb⟩ := hrel;have HB := hide hb;have hz := hb.size;have RA := AR.out.below (w' := wr) (B := w1.heap.size) (Below.step HBO.out HB.out nl) AR.out.lt;have cA0 := RA.c 0 rfl;have cA8 := RA.c 8 rfl;clear RA;by_cases hlt : k < m.pieces.length
     ·obtain ⟨_, _, e1, -, -, -, hcl⟩ := VO.out.pieces
      simp only [Value.slice.injEq] at e1;obtain ⟨rfl, -, rfl⟩ := e1;obtain ⟨b, o, rfl, -, hbl, hcs⟩ := hcl (by omega);obtain ⟨⟨r0, r1⟩, -⟩ := hcs k hlt;rw [← hb.cell (p := ⟨b, _, none⟩) (Nat.lt_of_lt_of_le hbl (by omega))] at r0 r1;obtain ⟨x0, hx0⟩ : ∃ x, m.pieces[k].l = x := ⟨_, rfl⟩;rw [hx0] at r0;obtain ⟨x1, hx1⟩ : ∃ x, m.pieces[k].s = x := ⟨_, rfl⟩;rw [hx1] at r1;have hkI : (k : Int) < (m.pieces.length : Int) := by omega
      have hN : bi m.pieces (k + 1) = bi m.pieces k + x0 := by rw [bi, ← hx0]; simp [hlt]
      have hB1 := HL.out k hk;have hB2 := HL.out (k + 1) hlt;rw [hN] at hB2;have hB3 := HS.out m.store.length nl;obtain ⟨S, hS⟩ : ∃ S, a + b0 + bq m.store m.store.length + bi m.pieces k = S := ⟨_, rfl⟩;have hS2 : a + b0 + bq m.store m.store.length + bi m.pieces (k + 1) = S + x0 := by rw [hN]; omega
      have hw2 : IntKind.i64.wrap (S + x0) = S + x0 := IntWalk.i64_in _ (by omega);have HS2 := hide hS2;rw [hS];clear hN hB1 hB2 hB3 hS hS2 hcl hcs hx0 hx1 hb;go_wp2_with fail
      go_roundw
      case rel => exact ⟨k + 1, by omega, by go_num, by rw [HS2.out], HB.out⟩
      case measure => simp [intOf]; omega
     ·obtain rfl : k = m.pieces.length := by omega
      have HBZ := hide (Below.step B_1.out (Below.step HBO.out HB.out nl) nl);go_wp2_with fail
      go_ret;exact ⟨by rw [HM.out, fZ, ha, hb0]; rfl, HBZ.out⟩
end Go.Proofs.YtkhecelpafojdaaGreatDoor
