/-
  Parts of the proofs over mills, of: DoI0, DoAI, AskP, PiecesA, PlainRep, PlainLine, JournA, RjPre, FlawP, Alive, PlainLL. Conditions: each theorem states its own.
-/
import Derived.Test.YtkhecelpafojdaaGreatDoorF43
import Derived.Test.YtkhecelpafojdaaGreatDoorF44
set_option linter.unusedSimpArgs false
set_option linter.unusedVariables false
set_option maxRecDepth 10000
set_option maxHeartbeats 64000000
namespace Go.Proofs.YtkhecelpafojdaaGreatDoor
open Go.RowKit
theorem do_i0 (s p l h : Value) (m : Mi) (a b : Int) (w : World) (H : aM 0 w.heap.size w s p l h m) (ha : a ≤ 9223372036854775807) (hb : b ≤ 9223372036854775807) :
 Calls Tryz.prog 21 #[ag s p l h m, .agg #[.int .i64 0, .int .i64 a, .int .i64 b]] w (jg w.heap.size (doR m ⟨0, a, b⟩) w) := by
 obtain ⟨ao1, cap1, ao2, cap2, ao3, cap3, ao4, cap4, rfl, rfl, rfl, rfl⟩ := H.op;have HM := hide H;clear H ha hb;unfold ag;go_enter Tryz.func21, Tryz.ntmps21;go_wp2_with fail
 refine aj fun wx hwx => ?_;have A_0 : ae wx (w.heap.size) 31 (mC ao1 cap1 ao2 cap2 ao3 cap3 ao4 cap4 m) := by rw [hwx]; exact (((ae.new _ _ _).alloc _).alloc _)
 have D_0 : ae wx (w.heap.size + 1) 42 [.int .i64 0, .int .i64 a, .int .i64 b] := by rw [hwx]; simpa using ((ae.new (World.alloc _ _) 42 [.int .i64 0, .int .i64 a, .int .i64 b]).alloc _)
 have R_0 : ae wx (w.heap.size + 1 + 1) 31 z12 := by rw [hwx]; simpa using (ae.new (World.alloc (World.alloc _ _) _) 31 z12)
 have B_0 : Below w.heap.size w wx := by rw [hwx]; go_grown
 clear hwx;have hL0 := R_0.lt;have V_0 := hide (HM.out.below B_0);have k1 := cz _ _ _ _ m wx V_0.out.all;unfold ag at k1;cases hv : aF m with
 | false =>
  rw [hv] at k1;have HZ := hide (iC hv ⟨0, a, b⟩);clear hv;refine k1.mono ?_;rintro e w1 ⟨rfl, hb⟩;have R_1 := R_0.below hb R_0.lt;have B_1 := bs B_0 hb;clear hb k1;have cRz := af R_1;have fRz := ay R_1;go_wp2_with fail
  refine bodyPost_ret (by simp [results, Tryz.results21, go_sem, cRz]; try rfl) rfl ?_;rw [HZ.out];exact ⟨_, _, _, _, rfl, bU B_1.out nl (by omega) _ _ _ _ _ _ _ _ _ _ _ _⟩
 | true =>
  rw [hv] at k1;obtain ⟨n1, n2, n3, n4⟩ := fV hv;have hD := gD hv 0 a b;rw [step_0] at hD;clear hv;refine k1.mono ?_;rintro e w1 ⟨rfl, hb⟩;have A_1 := A_0.below hb A_0.lt;have D_1 := D_0.below hb D_0.lt;have R_1 := R_0.below hb R_0.lt;have V_1 := hide (V_0.out.below hb);have B_1 := bs B_0 hb;have hz1 := hb.size;clear hb k1;have cAz := af A_1;go_wp2_with fail
  clear cAz;have k2 := bG _ _ _ _ m w1 V_1.out.all n1 n2 n3 n4;unfold ag at k2;refine k2.mono ?_;clear k2;rintro e w2 ⟨s2, p2, l2, h2, rfl, G, hb⟩;have A_2 := A_1.below hb A_1.lt;have D_2 := D_1.below hb D_1.lt;have R_2 := R_1.below hb R_1.lt;have V_2 := hide (V_1.out.below hb);have B_2 := bs B_1.out hb;have hz2 := hb.size;have hL2 := R_2.lt;have hLD := D_2.lt;have hLA := A_2.lt;clear hb;have G_2 := hide G;obtain ⟨aS, cs, ap, cp, al, cl, ah, ch, rfl, rfl, rfl, rfl⟩ := G.op;clear G;unfold ag;have cD0 := D_2.c 0 rfl;have cD1 := D_2.c 1 rfl;have cD2 := D_2.c 2 rfl;go_wp2_with fail
  refine aj fun wy hwy => ?_;have C_y : ae wy w2.heap.size 31 (mC aS cs ap cp al cl ah ch m) := by
   rw [hwy];first
    | exact (ae.new w2 31 (mC aS cs ap cp al cl ah ch m))
    | exact (dU (ae.new w2 31 z12) rfl _ _ _ _ _ _ _ _ _ _ _ _)
  have hby : Below w2.heap.size w2 wy := by
   rw [hwy];first
    | exact ((Below.refl _ _).alloc nl _)
    | exact (((Below.refl _ _).alloc nl _).trans ((aI w2.heap.size _ _ _ _ _ _ _ _ _ _ _ _ _).below nl (by simp)))
  have A_y := A_2.below hby A_2.lt;have R_y := R_2.below hby R_2.lt;have V_y := hide (V_2.out.below hby);have B_y := bs B_2.out hby;have G_y := hide (G_2.out.below hby);have hzy := hby.size;clear hwy hby;have MB : dm w1.heap.size w2.heap.size wy _ _ _ _ m := ⟨C_y, G_y.out, ⟨fun e => Nat.lt_irrefl _ (G_2.out.so.lt _ e).2, fun e => Nat.lt_irrefl _ (G_2.out.po.lt _ e).2, fun e => Nat.lt_irrefl _ (G_2.out.lo.lt _ e).2, fun e => Nat.lt_irrefl _ (G_2.out.ho.lt _ e).2⟩, hz2⟩;have k3 := melt_impl a MB;obtain ⟨o, ho⟩ : ∃ o, jv m a = o := ⟨_, rfl⟩;rw [ho] at k3 hD;have HD := hide hD;clear hD ho MB cD0 cD1 cD2;refine k3.mono ?_;clear k3;rintro e w4 ⟨rfl, hb, hx⟩;have A_4 := A_y.below hb (by omega);have R_4 := R_y.below hb (by omega);have V_4 := hide (V_y.out.gW hb (by omega));have B_4 := hide (B_y.out.trans (hb.mono (by omega)));have hz4 := hb.size;clear hb;rcases o with _ | x;rotate_left
  ·obtain ⟨s4, p4, l4, h4, C_4, G⟩ := hx x rfl
   have HZ := hide (show doR m ⟨0, a, b⟩ = (x, true) from HD.out);have G_4 := hide G;obtain ⟨aS4, cs4, ap4, cp4, al4, cl4, ah4, ch4, rfl, rfl, rfl, rfl⟩ := G.op;clear G hx;unfold az at C_4;have cCz := af C_4;have cRz := af R_4;have fRz := ay R_4;go_wp2_with fail
   refine bodyPost_ret (by simp [results, Tryz.results21, go_sem, cRz]; try rfl) rfl ?_;rw [HZ.out];exact ⟨_, _, _, _, rfl, aV G_4.out B_4.out (by omega) (by omega) nl _ _ _ _ _ _ _ _ _ _ _ _⟩
  ·clear hx
   have HZ := hide (show doR m ⟨0, a, b⟩ = (m, false) from HD.out);have cAz := af A_4;go_wp2_with fail
   clear cAz;have k5 := bG _ _ _ _ m w4 V_4.out.all n1 n2 n3 n4;unfold ag at k5;refine k5.mono ?_;clear k5;rintro e w5 ⟨s5, p5, l5, h5, rfl, G, hb⟩;have R_5 := R_4.below hb R_4.lt;have B_5 := bs B_4.out hb;clear hb;have G_5 := hide G;obtain ⟨aS5, cs5, ap5, cp5, al5, cl5, ah5, ch5, rfl, rfl, rfl, rfl⟩ := G.op;clear G;unfold ag;have cRz := af R_5;have fRz := ay R_5;go_wp2_with fail
   refine bodyPost_ret (by simp [results, Tryz.results21, go_sem, cRz]; try rfl) rfl ?_;rw [HZ.out];exact ⟨_, _, _, _, rfl, aV G_5.out B_5.out (by omega) (by omega) nl _ _ _ _ _ _ _ _ _ _ _ _⟩
theorem do_ix (s p l h : Value) (m : Mi) (k a b : Int) (w : World) (H : aM 0 w.heap.size w s p l h m) (ha : a ≤ 9223372036854775807) (hb : b ≤ 9223372036854775807) (e0 : (k == 0) = false) (e1 : (k == 1) = false) (e2 : (k == 2) = false) (e3 : (k == 3) = false) (e4 : (k == 4) = false) :
 Calls Tryz.prog 21 #[ag s p l h m, .agg #[.int .i64 k, .int .i64 a, .int .i64 b]] w (jg w.heap.size (doR m ⟨k, a, b⟩) w) := by
 obtain ⟨ao1, cap1, ao2, cap2, ao3, cap3, ao4, cap4, rfl, rfl, rfl, rfl⟩ := H.op;have HM := hide H;clear H ha hb;unfold ag;go_enter Tryz.func21, Tryz.ntmps21;go_wp2_with fail
 refine aj fun wx hwx => ?_;have A_0 : ae wx (w.heap.size) 31 (mC ao1 cap1 ao2 cap2 ao3 cap3 ao4 cap4 m) := by rw [hwx]; exact (((ae.new _ _ _).alloc _).alloc _)
 have D_0 : ae wx (w.heap.size + 1) 42 [.int .i64 k, .int .i64 a, .int .i64 b] := by rw [hwx]; simpa using ((ae.new (World.alloc _ _) 42 [.int .i64 k, .int .i64 a, .int .i64 b]).alloc _)
 have R_0 : ae wx (w.heap.size + 1 + 1) 31 z12 := by rw [hwx]; simpa using (ae.new (World.alloc (World.alloc _ _) _) 31 z12)
 have B_0 : Below w.heap.size w wx := by rw [hwx]; go_grown
 clear hwx;have hL0 := R_0.lt;have V_0 := hide (HM.out.below B_0);have k1 := cz _ _ _ _ m wx V_0.out.all;unfold ag at k1;cases hv : aF m with
 | false =>
  rw [hv] at k1;have HZ := hide (iC hv ⟨k, a, b⟩);clear hv;refine k1.mono ?_;rintro e w1 ⟨rfl, hb⟩;have R_1 := R_0.below hb R_0.lt;have B_1 := bs B_0 hb;clear hb k1;have cRz := af R_1;have fRz := ay R_1;go_wp2_with fail
  refine bodyPost_ret (by simp [results, Tryz.results21, go_sem, cRz]; try rfl) rfl ?_;rw [HZ.out];exact ⟨_, _, _, _, rfl, bU B_1.out nl (by omega) _ _ _ _ _ _ _ _ _ _ _ _⟩
 | true =>
  rw [hv] at k1;obtain ⟨n1, n2, n3, n4⟩ := fV hv;have hD := gD hv k a b;rw [step_x e0 e1 e2 e3 e4] at hD;have HZ := hide (show doR m ⟨k, a, b⟩ = (m, false) from hD);clear hD;clear hv;refine k1.mono ?_;rintro e w1 ⟨rfl, hb⟩;have A_1 := A_0.below hb A_0.lt;have D_1 := D_0.below hb D_0.lt;have R_1 := R_0.below hb R_0.lt;have V_1 := hide (V_0.out.below hb);have B_1 := bs B_0 hb;have hz1 := hb.size;clear hb k1;have cAz := af A_1;go_wp2_with fail
  clear cAz;have k2 := bG _ _ _ _ m w1 V_1.out.all n1 n2 n3 n4;unfold ag at k2;refine k2.mono ?_;clear k2;rintro e w2 ⟨s2, p2, l2, h2, rfl, G, hb⟩;have A_2 := A_1.below hb A_1.lt;have D_2 := D_1.below hb D_1.lt;have R_2 := R_1.below hb R_1.lt;have V_2 := hide (V_1.out.below hb);have B_2 := bs B_1.out hb;have hz2 := hb.size;have hL2 := R_2.lt;have hLD := D_2.lt;have hLA := A_2.lt;clear hb;obtain ⟨aS, cs, ap, cp, al, cl, ah, ch, rfl, rfl, rfl, rfl⟩ := G.op;clear G;unfold ag;have cD0 := D_2.c 0 rfl;have cD1 := D_2.c 1 rfl;have cD2 := D_2.c 2 rfl;have cAz := af A_2;go_wp2_with fail
  refine aj fun wy hwy => ?_;have hby : Below w2.heap.size w2 wy := by
   rw [hwy];first
    | exact (Below.refl _ _).alloc nl _
    | exact ((Below.refl _ _).alloc nl _).trans ((aI w2.heap.size _ _ _ _ _ _ _ _ _ _ _ _ _).below nl (by simp))
  have R_4 := R_2.below hby R_2.lt;have V_4 := hide (V_2.out.below hby);have B_4 := bs B_2.out hby;have hz4 := hby.size;clear hwy hby cD0 cD1 cD2 cAz;have k5 := bG _ _ _ _ m wy V_4.out.all n1 n2 n3 n4;unfold ag at k5;refine k5.mono ?_;clear k5;rintro e w5 ⟨s5, p5, l5, h5, rfl, G, hb⟩;have R_5 := R_4.below hb R_4.lt;have B_5 := bs B_4.out hb;clear hb;have G_5 := hide G;obtain ⟨aS5, cs5, ap5, cp5, al5, cl5, ah5, ch5, rfl, rfl, rfl, rfl⟩ := G.op;clear G;unfold ag;have cRz := af R_5;have fRz := ay R_5;go_wp2_with fail
  refine bodyPost_ret (by simp [results, Tryz.results21, go_sem, cRz]; try rfl) rfl ?_;rw [HZ.out];exact ⟨_, _, _, _, rfl, aV G_5.out B_5.out (by omega) (by omega) nl _ _ _ _ _ _ _ _ _ _ _ _⟩
theorem do_impl (s p l h : Value) (m : Mi) (d : J) (w : World) (H : aM 0 w.heap.size w s p l h m) (ha : d.d ≤ 9223372036854775807) (hb : d.g ≤ 9223372036854775807) :
 Calls Tryz.prog 21 #[ag s p l h m, .agg #[.int .i64 d.s, .int .i64 d.d, .int .i64 d.g]] w (jg w.heap.size (doR m d) w) := by
 obtain ⟨k, a, b⟩ := d;by_cases e0 : k = 0
 ·subst e0; exact do_i0 s p l h m a b w H ha hb
 by_cases e1 : k = 1
 ·subst e1; exact do_i1 s p l h m a b w H ha hb
 by_cases e2 : k = 2
 ·subst e2; exact do_i2 s p l h m a b w H ha hb
 by_cases e3 : k = 3
 ·subst e3; exact do_i3 s p l h m a b w H ha hb
 by_cases e4 : k = 4
 ·subst e4; exact do_i4 s p l h m a b w H ha hb
 exact do_ix s p l h m k a b w H ha hb (by simpa using e0) (by simpa using e1) (by simpa using e2) (by simpa using e3) (by simpa using e4)
def comB : ByteArray := ⟨#[44]⟩
def hyB : ByteArray := ⟨#[45]⟩
def slB : ByteArray := ⟨#[47]⟩
def noneB : ByteArray := ⟨#[110, 111, 110, 101]⟩
def whatB : ByteArray := ⟨#[119, 104, 97, 116]⟩
def qB (k : Nat) : ByteArray :=
 if k == 0 then ⟨#[115, 116, 114, 97, 110, 100]⟩ else if k == 1 then ⟨#[115, 99, 114, 97, 112]⟩ else if k == 2 then ⟨#[109, 97, 115, 115]⟩ else if k == 3 then ⟨#[115, 108, 97, 98, 115]⟩ else if k == 4 then ⟨#[99, 111, 105, 108, 115]⟩ else if k == 5 then ⟨#[103, 111, 110, 101]⟩ else ⟨#[103, 114, 97, 100, 101]⟩
def dW (ids : List Int) : ByteArray := ⟨(Lib.join (ids.map fun n => (aW n).data.toList) [44]).toArray⟩
theorem join_snoc (xs : List (List UInt8)) (y sep : List UInt8) : Lib.join (xs ++ [y]) sep = if xs = [] then y else Lib.join xs sep ++ (sep ++ y) := by
 obtain _ | ⟨x, r⟩ := xs
 ·simp [Lib.join_one]
 ·simp [Lib.join_cons, Lib.joinTail]
theorem fe : dW [] = ⟨#[]⟩ := rfl
theorem iN (n : Int) : dW ([] ++ [n]) = aW n := by
 apply ByteArray.ext;simp [dW, Lib.join_one]
theorem jm {ids : List Int} (h : ids ≠ []) (n : Int) : dW (ids ++ [n]) = dW ids ++ comB ++ aW n := by
 apply ByteArray.ext;have h' : ids.map (fun n => (aW n).data.toList) ≠ [] := by simpa using h
 simp only [dW, List.map_append, List.map_cons, List.map_nil, join_snoc, if_neg h'];apply Array.ext';simp [comB]
theorem rev_ind {α : Type} {p : List α → Prop} (h0 : p []) (h1 : ∀ xs x, p xs → p (xs ++ [x])) (l : List α) : p l := by
 have : ∀ r : List α, p r.reverse := fun r => by
  induction r with
  | nil => exact h0
  | cons x r ih => rw [List.reverse_cons]; exact h1 _ _ ih
 have h := this l.reverse
 rwa [List.reverse_reverse] at h
theorem joinN_size {B : Nat} (ids : List Int) : (∀ n ∈ ids, (aW n).size ≤ B) → (dW ids).size ≤ ids.length * (B + 1) :=
 rev_ind (p := fun ids => (∀ n ∈ ids, (aW n).size ≤ B) → (dW ids).size ≤ ids.length * (B + 1)) (fun _ => by rw [fe]; exact Nat.zero_le _) (fun xs n ih h => by
  have h1 := ih fun x hx => h x (by simp [hx]);have h2 := h n (by simp);rw [List.length_append, List.length_cons, List.length_nil, Nat.succ_mul];by_cases e : xs = []
  ·subst e; rw [iN]; simp; omega
  ·rw [jm e]
   simp only [ByteArray.size_append];have : comB.size = 1 := rfl;omega) ids
theorem numB_pos {n : Int} (h : 0 ≤ n) : 0 < (aW n).size := by
 obtain ⟨k, rfl⟩ : ∃ k : Nat, n = k := ⟨n.toNat, by omega⟩;by_cases hk : k < 10
 ·rw [← numB_small k hk]; exact Nat.zero_lt_one
 ·rw [← numB_big k hk]
  simp only [ByteArray.size_append];have : (⟨#[UInt8.ofNat (48 + ((k % 10 : Nat) : Int)).toNat]⟩ : ByteArray).size = 1 := rfl;omega
theorem joinN_pos (ids : List Int) : ids ≠ [] → (∀ n ∈ ids, 0 ≤ n) → 0 < (dW ids).size :=
 rev_ind (p := fun ids => ids ≠ [] → (∀ n ∈ ids, 0 ≤ n) → 0 < (dW ids).size) (fun h => absurd rfl h) (fun xs n _ _ h0 => by
  have h2 := numB_pos (h0 n (by simp));by_cases e : xs = []
  ·subst e; rw [iN]; exact h2
  ·rw [jm e]
   simp only [ByteArray.size_append]; omega) ids
def iQ (ids : List Int) : ByteArray := if ids = [] then noneB else dW ids
def fQ (a b : Int) : ByteArray := aW a ++ hyB ++ aW b
def gV (g : Gr) : ByteArray := if grB g then fQ g.lc g.hc ++ slB ++ fQ g.lm g.hm ++ slB ++ fQ g.ls g.hs else ⟨#[]⟩
def dZ (m : Mi) (q : ByteArray) : ByteArray :=
 if aF m then
  if q = qB 0 then aW m.strand else if q = qB 1 then aW m.scrap else if q = qB 2 then aW (fw m)
  else if q = qB 3 then iQ (bf m 0) else if q = qB 4 then iQ (bf m 1) else if q = qB 5 then iQ (bf m 2)
  else if q = qB 6 then gV m.rule else whatB
 else ⟨#[]⟩
theorem iL (s p l h : Value) (m : Mi) (st : Int) (w : World) (H : aM 0 w.heap.size w s p l h m) :
 Calls Tryz.prog 16 #[ag s p l h m, .int .i64 st] w (fA w.heap.size (bf m st) w) := by
 obtain ⟨ao1, cap1, ao2, cap2, ao3, cap3, ao4, cap4, rfl, rfl, rfl, rfl⟩ := H.op;have hpl := H.pieces.len;unfold ag;go_enter Tryz.func16, Tryz.ntmps16;go_wp2_with fail
 refine aj fun wx hwx => ?_;have A_0 : ae wx (w.heap.size) 31 (mC ao1 cap1 ao2 cap2 ao3 cap3 ao4 cap4 m) := by rw [hwx]; exact (ae.new _ _ _)
 have B_0 : Below w.heap.size w wx := by rw [hwx]; go_grown
 clear hwx;have hL0 := A_0.lt;have VV_0 := hide (H.below B_0);have KV := cz _ _ _ _ m wx VV_0.out.all;cases hv : aF m with
 | false =>
  rw [hv] at KV;refine KV.mono ?_;rintro e w1 ⟨rfl, hb⟩;have HB := bs B_0 hb;have HF := hide (show bf m st = [] by simp [bf, hv]);clear hb KV hv;go_wp2_with fail
  go_ret;exact ⟨_, rfl, by rw [HF.out]; exact World.ownsRow_nil _ _ _ _, HB.out⟩
 | true =>
  rw [hv] at KV;have HF := hide (show bf m st = dA m.pieces st by simp [bf, hv]);have h5 := (aQ.1 hv).len;clear hv;refine (KV).mono ?_;rintro e w1 ⟨rfl, hb⟩;have A_1 := A_0.below hb A_0.lt;have VV_1 := hide (VV_0.out.below hb);have B_1 := bs B_0 hb;have hz1 := hb.size;clear hb;have cA8 := A_1.c 8 rfl;clear KV;have hzw := B_1.out.size;go_wp2_with fail
  refine (idsIn_any _ m.pieces st _ _ w1 VV_1.out.pieces (by omega)).mono ?_;rintro e w2 ⟨v, rfl, hown, hb⟩;have HB := bs B_1.out hb;have HO := hide (aJ hown hzw);clear hown hb;go_wp2_with fail
  go_ret;exact ⟨_, rfl, by rw [HF.out]; exact HO.out, HB.out⟩
theorem clear_small {m : Mi} (h : aF m = true) : ∀ j ∈ bM m, j.d ≤ 9223372036854775807 ∧ j.g ≤ 9223372036854775807 := by
 have hv := aQ.1 h;intro j hj;unfold bM at hj;rw [if_pos h, List.mem_append] at hj;rcases hj with hj | hj
 ·obtain ⟨x, hx, rfl⟩ := List.mem_map.1 hj
  have h1 := (eD.1 hx).1;have h2 : x ∈ m.low ++ m.high := by
   simp only [List.mem_append] at h1 ⊢;exact h1.symm
  have h3 := hv.pile.rng x h2;exact ⟨show x ≤ 9223372036854775807 by omega, show (0 : Int) ≤ 9223372036854775807 by omega⟩
 ·obtain ⟨x, hx, hj⟩ := List.mem_flatMap.1 hj
  obtain ⟨k, hk, rfl, -⟩ := eY.1 hx;have h3 := hv.len;simp only [eG, List.mem_cons, List.not_mem_nil, or_false] at hj;rcases hj with rfl | rfl
  ·exact ⟨show ((k : Int) + 1) ≤ 9223372036854775807 by omega, show (0 : Int) ≤ 9223372036854775807 by omega⟩
  ·exact ⟨show ((k : Int) + 1) ≤ 9223372036854775807 by omega, show (0 : Int) ≤ 9223372036854775807 by omega⟩
theorem good_small {j : J} (h : gy j = true) : j.d ≤ 9223372036854775807 ∧ j.g ≤ 9223372036854775807 := by
 obtain ⟨-, h1, h2, -⟩ := iw (k := j.s) (o := j.d) (t := j.g) (s := dtJ j) (by simpa [gy] using h) rfl;rw [aN] at h1 h2;omega
theorem rj_small (s : ByteArray) : ∀ j ∈ (rjR s).1, j.d ≤ 9223372036854775807 ∧ j.g ≤ 9223372036854775807 := fun j hj => good_small (rj_good s j hj)
def iU (m : Mi) (s : ByteArray) : Mi × Int := if aF m then ((iX m (rjR s).1).1, ((rjR s).1.length : Int)) else (mi0, 0)
theorem replay_bad {m : Mi} (h : aF m = false) (s : ByteArray) : iU m s = (mi0, 0) := by
 unfold iU;rw [if_neg (by simp [h])]
theorem replay_good {m : Mi} (h : aF m = true) (s : ByteArray) : iU m s = ((iX m (rjR s).1).1, ((rjR s).1.length : Int)) := by
 unfold iU;rw [if_pos h]
def okB : ByteArray := ⟨#[111, 107]⟩
def noB : ByteArray := ⟨#[110, 111]⟩
def fU : ByteArray := ⟨#[99, 108, 101, 97, 114]⟩
def iM (m : Mi) (t : ByteArray) : Mi × ByteArray :=
 if aF m then
  match rdI (dD t) with
  | some (k, o, u) => ((doR m ⟨k, o, u⟩).1, if (doR m ⟨k, o, u⟩).2 then okB else noB)
  | none => if t = fU then ((iX m (bM m)).1, okB) else (m, dZ m t)
 else (mi0, ⟨#[]⟩)
theorem line_bad {m : Mi} (h : aF m = false) (t : ByteArray) : iM m t = (mi0, ⟨#[]⟩) := by
 unfold iM;rw [if_neg (by simp [h])]
theorem line_deed {m : Mi} (h : aF m = true) {t : ByteArray} {k o u : Int} (hr : rdI (dD t) = some (k, o, u)) : iM m t = ((doR m ⟨k, o, u⟩).1, if (doR m ⟨k, o, u⟩).2 then okB else noB) := by
 unfold iM;rw [if_pos h, hr]
theorem jO {m : Mi} (h : aF m = true) {t : ByteArray} (hr : rdI (dD t) = none) (hc : t = fU) : iM m t = ((iX m (bM m)).1, okB) := by
 unfold iM;rw [if_pos h, hr];exact if_pos hc
theorem line_ask {m : Mi} (h : aF m = true) {t : ByteArray} (hr : rdI (dD t) = none) (hc : t ≠ fU) : iM m t = (m, dZ m t) := by
 unfold iM;rw [if_pos h, hr];exact if_neg hc
theorem rd_small {t : ByteArray} {k o u : Int} (hr : rdI (dD t) = some (k, o, u)) : o ≤ 9223372036854775807 ∧ u ≤ 9223372036854775807 := by
 obtain ⟨h1, h2⟩ := (rdI_iff (ja t) k o u).1 hr;obtain ⟨-, h3, h4, -⟩ := iw h1 h2;rw [aN] at h3 h4;omega
theorem index10 : ∀ l : List UInt8, Lib.index l [10] = if 10 ∈ l then ((l.takeWhile (· != 10)).length : Int) else -1
 | [] => by simp [Lib.index]
 | b :: l => by
  have ih := index10 l;by_cases hb : b = 10
  ·subst hb; simp [Lib.index, List.isPrefixOf]
  ·have h1 : ([10] : List UInt8).isPrefixOf (b :: l) = false := by simp [List.isPrefixOf, Ne.symm hb]
   have h2 : (10 ∈ b :: l) ↔ 10 ∈ l := ⟨fun h => (List.mem_cons.1 h).resolve_left fun e => hb e.symm, fun h => List.mem_cons_of_mem _ h⟩;have h3 : (b != 10) = true := by simp [hb]
   unfold Lib.index;rw [h1, ih];simp only [h2, List.takeWhile_cons, h3, if_true];by_cases hm : 10 ∈ l
   ·rw [if_pos hm, if_pos hm]
    have : (((l.takeWhile (· != 10)).length : Int) == -1) = false := by rw [beq_eq_false_iff_ne]; omega
    simp [this]
   ·rw [if_neg hm, if_neg hm]; simp
theorem tw_take (l : List UInt8) : l.take (l.takeWhile (· != 10)).length = l.takeWhile (· != 10) := by
 conv => lhs; arg 2; rw [← List.takeWhile_append_dropWhile (p := fun x => x != 10) (l := l)]
 rw [List.take_append_of_le_length nl, List.take_length]
theorem cut10 (l : List UInt8) : Lib.cut l [10] = if 10 ∈ l then (l.takeWhile (· != 10), l.drop ((l.takeWhile (· != 10)).length + 1), true) else (l, [], false) := by
 unfold Lib.cut;rw [index10];by_cases h : 10 ∈ l
 ·rw [if_pos h, if_pos (by omega), if_pos h, Int.toNat_natCast, tw_take]; rfl
 ·rw [if_neg h, if_neg (by omega), if_neg h]
theorem tw_len {l : List UInt8} (h : 10 ∈ l) : (l.takeWhile (· != 10)).length + 1 ≤ l.length := by
 obtain ⟨a, r, rfl, hn⟩ := split10 h;rw [tw_app hn]; simp
theorem rest_data (s : ByteArray) (n : Nat) : (s.extract n s.size).data.toList = s.data.toList.drop n := by
 rw [ext_data, List.take_of_length_le (by rw [List.length_drop, bD]; exact Nat.le_refl _)]
theorem rjGo_no {f : Nat} {l : List UInt8} (h : 10 ∉ l) : fI f l = ([], 0) := by
 cases f with
 | zero => rfl
 | succ f => rw [fI, if_neg h]
theorem rjGo_bad {f : Nat} {l : List UInt8} (h : rdL (l.takeWhile (· != 10)) = none) : fI f l = ([], 0) := by
 cases f with
 | zero => rfl
 | succ f =>
  rw [fI];split
  ·rw [h]
  ·rfl
theorem rjGo_one {f : Nat} {l : List UInt8} {d : J} (hm : 10 ∈ l) (h : rdL (l.takeWhile (· != 10)) = some d) :
 fI (f + 1) l = (d :: (fI f (l.drop ((l.takeWhile (· != 10)).length + 1))).1, (l.takeWhile (· != 10)).length + 1 + (fI f (l.drop ((l.takeWhile (· != 10)).length + 1))).2) := by
 rw [fI, if_pos hm, h]
structure RjSt (s : ByteArray) (D : List J) (n f : Nat) : Prop where
 len : D.length + f = 99
 le : n ≤ s.size
 eq : rjR s = (D ++ (fI f (s.data.toList.drop n)).1, n + (fI f (s.data.toList.drop n)).2)
theorem RjSt.start (s : ByteArray) : RjSt s [] 0 99 := ⟨rfl, Nat.zero_le _, by simp [rjR]⟩
theorem RjSt.over {s : ByteArray} {D : List J} {n f : Nat} (h : RjSt s D n f) (hz : fI f (s.data.toList.drop n) = ([], 0)) : rjR s = (D, n) := by
 rw [h.eq, hz]; simp
theorem RjSt.step {s : ByteArray} {D : List J} {n f : Nat} {d : J} (h : RjSt s D n (f + 1)) (hm : 10 ∈ s.data.toList.drop n) (hd : rdL ((s.data.toList.drop n).takeWhile (· != 10)) = some d) :
 RjSt s (D ++ [d]) (n + (((s.data.toList.drop n).takeWhile (· != 10)).length + 1)) f := by
 refine ⟨?_, ?_, ?_⟩
 ·have := h.len; simp; omega
 ·have h1 := tw_len hm
  have h2 := h.le;rw [List.length_drop, bD] at h1;omega
 ·rw [h.eq, rjGo_one hm hd, List.drop_drop]
  simp [Nat.add_assoc]
theorem rdL_of {l : List UInt8} {B : ByteArray} (h : B.data.toList = l) : rdL l = (rdI (dD B)).map fun (k, o, t) => ⟨k, o, t⟩ := by
 unfold rdL;rw [show (⟨l.toArray⟩ : ByteArray) = B from ext_list (by simp [h])]
def lenOf : Value → Nat
 | .slice _ n _ => n
 | _ => 0
theorem jC (s : ByteArray) (m : Int) (w : World) (hs : s.size < 4294967281) (hm : w.cell? ⟨1, 0, none⟩ = some (.int .i64 m)) (hna : dz w) :
 Calls Tryz.prog 9 #[.string s] w fun e w' => ∃ v, e = .returned (.tuple #[v, .int .i64 ((rjR s).2 : Int)]) ∧ w'.ownsRow w.heap.size 42 3 v (rjR s).1.length (dh (rjR s).1) ∧ Below w.heap.size w w' := by
 have h1lt : 1 < w.heap.size := by
  rcases Nat.lt_or_ge 1 w.heap.size with h | h
  ·exact h
  ·simp [World.cell?, Array.getElem?_eq_none h] at hm
 obtain ⟨j0, hj0, hzj, hj1, hj2⟩ := info_parts info_J;go_enter Tryz.func9, Tryz.ntmps9;go_wp2_with fail
 go_loopw [4, 5, 6, 7, 8, 9, 10] (fun o i _ _ _ _ _ wr => ∃ (D : List J) (n f : Nat), RjSt s D n f ∧ i = .int .i64 n ∧ Below w.heap.size w wr ∧ wr.ownsRow w.heap.size 42 3 o D.length (dh D)) (fun o _ _ _ _ _ _ _ => 99 - lenOf o)
 case atStart => exact ⟨[], 0, 99, .start s, rfl, Below.refl _ _, World.ownsRow_nil _ _ _ _⟩
 case round =>
  obtain ⟨D, n, f, hst, rfl, hb, hown⟩ := hrel;have HB := hide hb;have HO := hide hown;have HST := hide hst;have hDf := hst.len;have hns := hst.le;have hszr := hb.size;obtain ⟨aow, capw, rfl, -, -⟩ := aB hown;have hmr := hide (show wr.cell? ⟨1, 0, none⟩ = some (.int .i64 m) by rw [hb.cell h1lt]; exact hm);have hnr := hide (hna.stays hb);clear hown hst hb;by_cases hlt : D.length < 99
  ·obtain ⟨f, rfl⟩ : ∃ g, f = g + 1 := ⟨f - 1, by omega⟩
   have hlI : (D.length : Int) < 99 := by omega
   have hn0 : (0 : Int) ≤ (n : Int) := by omega
   have hnI : (n : Int) ≤ (s.size : Int) := by omega
   have HT := hide (rest_data s n);have hTs : (s.extract n s.size).size < 4294967281 := by rw [ByteArray.size_extract]; omega
   have hcut := Tryz.strings_Cut (s.extract n s.size) ⟨#[10]⟩ m wr hTs hmr.out;rw [show (⟨#[10]⟩ : ByteArray).data.toList = [10] from rfl, HT.out, cut10] at hcut;by_cases hmem : 10 ∈ s.data.toList.drop n
   ·rw [if_pos hmem] at hcut
    obtain ⟨B, hB⟩ : ∃ B : ByteArray, ⟨((s.data.toList.drop n).takeWhile (· != 10)).toArray⟩ = B := ⟨_, rfl⟩
    obtain ⟨C, hC⟩ : ∃ C : ByteArray, ⟨((s.data.toList.drop n).drop (((s.data.toList.drop n).takeWhile (· != 10)).length + 1)).toArray⟩ = C := ⟨_, rfl⟩
    have hBd : B.data.toList = (s.data.toList.drop n).takeWhile (· != 10) := by rw [← hB]
    have hBs : B.size = ((s.data.toList.drop n).takeWhile (· != 10)).length := by rw [← bD, hBd]
    have hBl : B.size + 1 ≤ s.size - n := by
     have := tw_len hmem;rw [List.length_drop, bD] at this;omega
    have HSTEP := hide (fun d hd => HST.out.step (d := d) hmem hd);have HBAD := hide (fun hd => HST.out.over (rjGo_bad hd));rw [← hBs] at HSTEP;simp only [rdL_of hBd] at HSTEP HBAD;dsimp only at hcut;rw [hB, hC] at hcut;clear hB hC hBd hBs hmem;go_wp2_with fail
    refine hcut.mono ?_;rintro e w1 ⟨rfl, q, hw⟩;have hb1 : Below wr.heap.size wr w1 := by rw [hw]; exact below_drewN (Below.refl _ _) _
    have HB1 := bs HB.out hb1;have HO1 := hide (ownsRow_below HO.out hb1 nl);have hm1 := hide (show w1.cell? ⟨1, 0, none⟩ = some (.int .i64 m) by rw [hb1.cell (by show 1 < wr.heap.size; omega)]; exact hmr.out);have hn1 := hide (hnr.out.stays hb1);have hz1 := hb1.size;clear hw hb1 hcut HT hTs;go_wp2_with fail
    have hrd := readDeed_impl B m w1 (by omega) hm1.out hn1.out;rcases hr : rdI (dD B) with _ | ⟨k, o, t⟩
    ·rw [hr] at hrd HBAD
     have HR := hide (HBAD.out rfl);refine hrd.mono ?_;rintro e w2 ⟨rfl, hb2⟩;have HB2 := bs HB1.out hb2;have HO2 := hide (ownsRow_below HO1.out hb2 nl);have hz2 := HB2.out.size;clear hb2 hrd HBAD HSTEP hr;simp only [deedV];go_wp2_with fail
     go_ret2
     rw [HR.out];exact ⟨_, rfl, HO2.out.alloc _, HB2.out.alloc hz2 _⟩
    ·rw [hr] at hrd HSTEP
     have HR := hide (HSTEP.out ⟨k, o, t⟩ rfl);refine hrd.mono ?_;rintro e w2 ⟨rfl, hb2⟩;have HB2 := bs HB1.out hb2;have HO2 := hide (ownsRow_below HO1.out hb2 nl);have hz2 := HB2.out.size;clear hb2 hrd HBAD HSTEP hr;simp only [deedV];go_wp2_with (at_builtin; refine aA rfl _ _ 36 rfl w.heap.size 42 j0 _ 3 24 Tryz.underlying36 hj0 hzj hj1 hj2 rfl (by decide) _ _ _ rfl ((HO2.out.alloc _).alloc _) (.slice (some ⟨w2.heap.size + 1, 0, none⟩) 1 1) 1 [.int .i64 k, .int .i64 o, .int .i64 t] rfl ?c0 ?c1 ?c2 ?c3 ?_)
     case c0 => simpa using Source.lit (World.alloc w2 _) [.int .i64 k, .int .i64 o, .int .i64 t] 3 42 1 rfl (fun u hu => by simp at hu; rcases hu with rfl | rfl | rfl <;> rfl) 1
     case c1 => unfold maxLen; omega
     case c2 => omega
     case c3 => simp; omega
     intro v2 w3 hown2 hgrow2 _;have hB3 := ((HB2.out.alloc hz2 (.cells #[.int .i64 k, .int .i64 o, .int .i64 t] 42)).alloc (by simp; omega) (.cells #[.int .i64 k, .int .i64 o, .int .i64 t] 42)).trans (Below.grow hgrow2 ((HO2.out.alloc _).alloc _) nl (by simp; omega));have HB3 := hide hB3;have HO3 := hide (show w3.ownsRow w.heap.size 42 3 v2 (D ++ [(⟨k, o, t⟩ : J)]).length (dh (D ++ [⟨k, o, t⟩])) by rw [dQ, List.length_append]; exact hown2);obtain ⟨ao3, cap3, rfl, -, -⟩ := aB hown2;clear hown2 hgrow2 hB3;go_wp2_with fail
     go_roundw
     case rel => exact ⟨D ++ [⟨k, o, t⟩], n + (B.size + 1), f, HR.out, by go_num, HB3.out, by simpa using HO3.out⟩
     case measure => simp [lenOf]; omega
   ·rw [if_neg hmem] at hcut
    have HR := hide (HST.out.over (rjGo_no hmem));obtain ⟨B, hB⟩ : ∃ B : ByteArray, ⟨(s.data.toList.drop n).toArray⟩ = B := ⟨_, rfl⟩;dsimp only at hcut;rw [hB] at hcut;clear hB;go_wp2_with fail
    refine hcut.mono ?_;rintro e w1 ⟨rfl, q, hw⟩;have hb1 : Below wr.heap.size wr w1 := by rw [hw]; exact below_drewN (Below.refl _ _) _
    have HB1 := bs HB.out hb1;have HO1 := hide (ownsRow_below HO.out hb1 nl);clear hw hb1 hcut HT hTs;go_wp2_with fail
    go_ret2
    rw [HR.out];exact ⟨_, rfl, HO1.out, HB1.out⟩
  ·have hlI : ¬ (D.length : Int) < 99 := by omega
   obtain rfl : f = 0 := by omega
   have HR := hide (HST.out.over rfl);go_wp2_with fail
   go_ret2
   rw [HR.out];exact ⟨_, rfl, HO.out, HB.out⟩
theorem rj_fits (s : ByteArray) : (rjR s).2 ≤ s.size ∧ (rjR s).1.length ≤ 99 ∧ jtR (rjR s).1 = s.extract 0 (rjR s).2 := by
 have h2 := rj_le 99 s.data.toList;refine ⟨?_, h2.2.1, ext_list ?_⟩
 ·have := h2.1
  rwa [bD] at this
 ·rw [jt_back, ext_data, List.drop_zero, Nat.sub_zero]
theorem bz.take {lo hi n cap k : Nat} {ao : Option Addr} {w : World} {xs : List J} (h : bz lo hi w (.slice ao n cap) xs) (hk : k ≤ n) : bz lo hi w (.slice ao k cap) (xs.take k) := by
 obtain ⟨ao', cap', e, a1, a2, a3, a4⟩ := h;simp only [Value.slice.injEq] at e;obtain ⟨rfl, rfl, rfl⟩ := e;have hl : (xs.take k).length = k := by simp; omega
 refine ⟨ao, cap, by rw [hl], by omega, a2, a3, fun hn => ?_⟩;obtain ⟨b, o, ea, hb1, hb2, hc⟩ := a4 (by omega);refine ⟨b, o, ea, hb1, hb2, fun i hi => ?_⟩;simp only [List.getElem_take];exact hc i (by omega)
structure Way (a w : World) : Prop where
 b : Below a.heap.size a w
theorem Way.below {a w w' : World} (h : Way a w) (k : Below w.heap.size w w') : Way a w' := ⟨Below.step h.b k nl⟩
theorem mv_yes {f : FuncId} {args : Array Value} {m : Mi} {w : World} (h : Calls Tryz.prog f args w fun e w' => e = .returned (.bool (aF m)) ∧ Below w.heap.size w w') (hv : aF m = true) : Calls Tryz.prog f args w fun e w' => e = .returned (.bool true) ∧ Below w.heap.size w w' := by
 rw [hv] at h;exact h
theorem sm_yes {f : FuncId} {args : Array Value} {m z : Mi} {w : World} (h : Calls Tryz.prog f args w fun e w' => e = .returned (.bool (decide (m = z))) ∧ Below w.heap.size w w') (hv : m = z) : Calls Tryz.prog f args w fun e w' => e = .returned (.bool true) ∧ Below w.heap.size w w' := by
 rw [decide_eq_true hv] at h;exact h
theorem mixTons_23 (b : Nat) (w : World) (h0 : w.cell? ⟨b, 0, none⟩ = some (.int .i64 2)) (h1 : w.cell? ⟨b, 1, none⟩ = some (.int .i64 3)) :
 Calls Tryz.prog 48 #[.slice (some ⟨b, 0, none⟩) 2 2] w fun e w' => e = .returned (.int .i64 5) ∧ w = w' := by
 go_enter Tryz.func48, Tryz.ntmps48
 go_wp2
 go_loop [3, 8] (fun s i => ∃ k : Nat, k ≤ 2 ∧ i = .int .i64 k ∧ s = .int .i64 (if k = 0 then 0 else if k = 1 then 2 else 5)) (fun _ i => 2 - (intOf i).toNat)
 case atStart => exact ⟨0, Nat.zero_le _, rfl, rfl⟩
 case round =>
  obtain ⟨k, hk, rfl, rfl⟩ := hrel;have hk3 : k = 0 ∨ k = 1 ∨ k = 2 := by omega
  rcases hk3 with rfl | rfl | rfl
  ·go_wp2
   go_round
   case rel => exact ⟨1, by omega, rfl, rfl⟩
   case measure => simp [intOf]
  ·go_wp2
   go_round
   case rel => exact ⟨2, by omega, rfl, rfl⟩
   case measure => simp [intOf]
  ·go_wp2
   go_ret;exact ⟨rfl, rfl⟩
theorem gradeValid_5 (w : World) :
 Calls Tryz.prog 51 #[.agg #[.int .i64 5, .int .i64 0, .int .i64 0, .int .i64 0, .int .i64 0, .int .i64 0]] w fun e w' => e = .returned (.bool false) ∧ Below w.heap.size w w' := by
 have e1 : wi 5 0 999 = true := rfl;have e2 : wi 0 5 999 = false := rfl;go_enter Tryz.func51, Tryz.ntmps51;go_wp2_with (go_at_call 45; refine (aU _ _ _ _).mono ?_; rintro e w' ⟨rfl, rfl⟩)
 all_goals
  go_ret;exact ⟨rfl, by go_grown⟩
theorem gradeText_5 (w : World) :
 Calls Tryz.prog 49 #[.agg #[.int .i64 5, .int .i64 0, .int .i64 0, .int .i64 0, .int .i64 0, .int .i64 0]] w fun e w' => e = .returned (.string ⟨#[]⟩) ∧ Below w.heap.size w w' := by
 go_enter Tryz.func49, Tryz.ntmps49;go_wp2_with fail
 refine (gradeValid_5 _).mono ?_;rintro e w1 ⟨rfl, hb⟩;go_wp2_with fail
 go_ret;exact ⟨rfl, Below.step ((Below.refl _ _).alloc nl _) hb nl⟩
theorem alive_any (w : World) : Calls Tryz.prog 14 #[] w fun e w' => e = .returned (.bool true) ∧ Below w.heap.size w w' := by
 go_enter Tryz.func14, Tryz.ntmps14;go_wp2_with fail
 refine (mixTons_23 _ _ (by simp [go_sem]) (by simp [go_sem])).mono ?_;rintro e w1 ⟨rfl, rfl⟩;go_wp2_with fail
 refine (gradeText_5 _).mono ?_;rintro e w1 ⟨rfl, hb⟩;go_wp2_with fail
 go_ret;exact ⟨rfl, Below.step ((Below.refl _ _).alloc nl _) hb nl⟩
theorem rd_dt {d : J} (hg : gy d = true) : rdI (dD (dtJ d)) = some (d.s, d.d, d.g) := (rdI_iff (ja _) _ _ _).2 ⟨by simpa [gy] using hg, rfl⟩
theorem line_dt {m : Mi} (h : aF m = true) {d : J} (hg : gy d = true) : iM m (dtJ d) = ((doR m d).1, if (doR m d).2 then okB else noB) := line_deed h (rd_dt hg)
theorem line_law {m : Mi} (h : aF m = true) (t : ByteArray) : aF (iM m t).1 = true ∧ ((iM m t).2 = okB ∨ (iM m t).1 = m) := by
 rcases hr : rdI (dD t) with _ | ⟨k, o, u⟩
 ·by_cases hc : t = fU
  ·rw [jO h hr hc]
   exact ⟨(run_valid h (clear_len m)).1, .inl rfl⟩
  ·rw [line_ask h hr hc]
   exact ⟨h, .inr rfl⟩
 ·rw [line_deed h hr]
  cases hd : (doR m ⟨k, o, u⟩).2 with
  | true => exact ⟨(do_law h hd).2.1, .inl (by simp)⟩
  | false =>
   rcases do_same hd with e | e
   ·exact ⟨by simp only [e]; exact h, .inr e⟩
   ·rw [h] at e
    cases e
theorem line_step {m : Mi} {js : List J} (h : aF m = true) (hl : js.length ≤ 99) (hg : ∀ j ∈ js, gy j = true) {k : Nat} (hk : k < js.length) :
 ∃ b : Bool, iM (dX m (js.take k)).1 (dtJ (js.getD k jz)) = ((dX m (js.take (k + 1))).1, if b then okB else noB) := by
 have hlk : (js.take k).length ≤ 99 := by rw [List.length_take]; omega
 have hv := (run_valid h hlk).1;rw [jL h hlk] at hv;have hd : js.getD k jz = js[k] := by simp [hk]
 have hgd : gy (js.getD k jz) = true := by rw [hd]; exact hg _ (List.getElem_mem hk)
 refine ⟨(doR (dX m (js.take k)).1 (js.getD k jz)).2, ?_⟩;rw [line_dt hv hgd, run_take m hk, runS_eq (aQ.1 hv)]
theorem clear_no : rdI (dD fU) = none := by
 rcases hr : rdI (dD fU) with _ | ⟨k, o, u⟩
 ·rfl
 ·obtain ⟨h1, h2⟩ := (rdI_iff (ja fU) k o u).1 hr
  obtain ⟨a1, a2, a3, a4⟩ := iw h1 h2;have hm : (32 : UInt8) ∈ (dtB k o u).data.toList := by
   cases ht : jw k with
   | true => rw [dt_two a1 a2 a3 ht]; simp
   | false =>
    rcases a4 with a4 | a4
    ·rw [ht] at a4
     cases a4
    ·subst a4
     rw [dt_one a1 a2 ht];simp
  rw [h2] at hm;exact absurd hm (by decide)
theorem line_clr {m : Mi} (h : aF m = true) : iM m fU = ((iX m (bM m)).1, okB) := jO h clear_no rfl
theorem run_all {m : Mi} {s : ByteArray} (h : aF m = true) : (dX m ((rjR s).1.take (rjR s).1.length)).1 = (iU m s).1 := by
 rw [List.take_length, replay_good h];exact (congrArg Prod.fst (jL h (rj_le 99 s.data.toList).2.1)).symm
end Go.Proofs.YtkhecelpafojdaaGreatDoor
