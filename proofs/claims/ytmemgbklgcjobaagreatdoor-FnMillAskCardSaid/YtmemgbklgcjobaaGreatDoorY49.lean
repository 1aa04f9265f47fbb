/-
  Parts of the proofs over mills, of: Frame, RjPre, DrawMAk, NumQ, CutQ. Conditions: each theorem states its own.
-/
import Derived.Test.YtmemgbklgcjobaaGreatDoorY33
import Derived.Test.YtmemgbklgcjobaaGreatDoorY34
set_option linter.unusedSimpArgs false
set_option linter.unusedVariables false
set_option maxRecDepth 10000
set_option maxHeartbeats 64000000
namespace Go.Proofs.YtmemgbklgcjobaaGreatDoor
open Go.ChangeShapes Go.WideShapes Go.Deep Go.RowKit
section
variable {H : Type} {enc : TypeId × Value → H} {P : Program}
theorem law_post {f : Func} {s : ChangeSpec} {apart fresh handsOn again : Bool} {W W' : World} {args : Array Value} {ds gs : List (DataW H)} {before : List MemPlace} {tb : TypeId}
 (hl : laidOutB P = true) (hts : ∀ t ∈ f.params.toList, P.readableRec t = true ∧ t < P.types.size) (hr : f.resultTypes = #[tb]) (hbool : P.underlying tb = some .bool)
 (hv : s.vars = []) (hsf : s.fn H (ds ++ gs) = { results := [.lit (.bool true)], args := ds })
 (hW : DataW.Whole enc P f.params.toList s.vars apart W args.toList ds gs before) (hb : Below W.heap.size W W') :
 s.post enc P f apart fresh handsOn again W args (.bool true) W' := by
 have hlt : ∀ p ∈ before, p.block < W.heap.size := fun p hp => hW.lt p hp;have hW0 := hW;obtain ⟨p, q, hA, hV, rfl, hz, hn⟩ := hW;rw [hv] at hV;obtain ⟨rfl, rfl⟩ := trodVars_none hV;simp only [List.append_nil] at hlt hW0;have hargs : ∀ sp : Nat → Bool, (∀ x ∈ p, sp x.block = true) → DataW.TrodAll enc P W' 0 sp true f.params.toList args.toList (s.fn H (ds ++ [])).args p := fun sp hsp => by
  rw [hsf];exact trodAll_stays hl hb sp hts hA hlt hsp
 have hvars : ∀ sp : Nat → Bool, DataW.TrodVars enc P W' sp s.vars (s.fn H (ds ++ [])).vars [] := fun sp => by
  rw [hsf, hv]; rfl
 have hres : ∀ (b : Nat) (sp : Nat → Bool) (hd : Bool), DataW.TrodAll enc P W' b sp hd f.resultTypes.toList ((Value.bool true).resultList f.resultTypes.size) (s.fn H (ds ++ [])).results [] := fun b sp hd => by
  rw [hsf, hr];exact trodAll_mk1 (shut_bool hbool _)
 have hold : ∀ x ∈ p, (fun b => decide (b < W.heap.size)) x.block = true := fun x hx => by simpa using hlt x hx
 refine ⟨ds, [], p, [], p, [], hW0, hres _ _ _, hargs _ hold, hvars _, World.keptBut_mono (fun x hx => ⟨hx, ?_⟩) (hb.frame (· ∈ p)), fun _ => ?_⟩
 ·exact Or.inr (Or.inl hx)
 ·refine ⟨ok_one hr rfl (okWide_bool_mk hbool _), _, _, ([] ++ p) ++ [], ⟨[] ++ p, [], trodAll_append (hargs _ (fun _ _ => rfl)) (hres _ _ _), hvars _, rfl, ?_, ?_⟩, ?_⟩
  ·intro b off hp
   have hin : MemPlace.cell b off ∈ p := by simpa using hp
   rw [hb.frozen (hlt _ hin)];exact hz b off (by simpa using hin)
  ·intro ha
   have := hn ha;simpa using this
  ·intro x hx _
   simpa using hx
end
end Go.Proofs.YtmemgbklgcjobaaGreatDoor
namespace Go.Proofs.YtmemgbklgcjobaaGreatDoor
open Go.RowKit
theorem JobsAt.drop {lo hi b o n cap k : Nat} {w : World} {xs : List J} (h : JobsAt lo hi w (.slice (some ⟨b, o, none⟩) n cap) xs) (hk : k ≤ n) (hc : n ≤ cap) : JobsAt lo hi w (.slice (some ⟨b, o + k * 3, none⟩) (n - k) (cap - k)) (xs.drop k) := by
 obtain ⟨ao', cap', e, a1, a2, a3, a4⟩ := h;simp only [Value.slice.injEq] at e;obtain ⟨rfl, rfl, rfl⟩ := e;refine ⟨_, cap - k, by rw [List.length_drop], by rw [List.length_drop]; omega, by omega, a3, fun hn => ?_⟩;rw [List.length_drop] at hn;obtain ⟨b', o', ea, hb1, hb2, hc⟩ := a4 (by omega);simp only [Option.some.injEq, Addr.mk.injEq] at ea;obtain ⟨rfl, rfl, -⟩ := ea;refine ⟨_, _, rfl, hb1, hb2, fun i hi => ?_⟩;rw [List.length_drop] at hi;have h2 := hc (k + i) (by omega);simp only [List.getElem_drop];rw [show o + k * 3 + i * 3 = o + (k + i) * 3 by omega];exact h2
def askwL : List Value := [.string ⟨#[115, 116, 114, 97, 110, 100]⟩, .string ⟨#[115, 99, 114, 97, 112]⟩, .string ⟨#[109, 97, 115, 115]⟩, .string ⟨#[103, 114, 97, 100, 101]⟩, .string ⟨#[115, 108, 97, 98, 115]⟩, .string ⟨#[99, 111, 105, 108, 115]⟩, .string ⟨#[103, 111, 110, 101]⟩, .string ⟨#[99, 108, 101, 97, 114]⟩]
theorem askw_at : ∀ j, j < 8 → ∃ z : ByteArray, askwL[j]? = some (.string z) ∧ z.size ≤ 8
 | 0, _ => ⟨_, rfl, by decide⟩
 | 1, _ => ⟨_, rfl, by decide⟩
 | 2, _ => ⟨_, rfl, by decide⟩
 | 3, _ => ⟨_, rfl, by decide⟩
 | 4, _ => ⟨_, rfl, by decide⟩
 | 5, _ => ⟨_, rfl, by decide⟩
 | 6, _ => ⟨_, rfl, by decide⟩
 | 7, _ => ⟨_, rfl, by decide⟩
 | k + 8, h => absurd h (by omega)
theorem askw_cell (w : World) (j : Nat) (z : ByteArray) (h : askwL[j]? = some (.string z)) : (w.alloc (.cells #[.string ⟨#[115, 116, 114, 97, 110, 100]⟩, .string ⟨#[115, 99, 114, 97, 112]⟩, .string ⟨#[109, 97, 115, 115]⟩, .string ⟨#[103, 114, 97, 100, 101]⟩, .string ⟨#[115, 108, 97, 98, 115]⟩, .string ⟨#[99, 111, 105, 108, 115]⟩, .string ⟨#[103, 111, 110, 101]⟩, .string ⟨#[99, 108, 101, 97, 114]⟩] 9)).cell? ⟨w.heap.size, j, none⟩ = some (.string z) := by
 have := lit_cells w askwL 9 j _ h;rw [adds] at this;exact this
def badwL : List Value := [.string ⟨#[]⟩, .string ⟨#[109, 101, 108, 116]⟩, .string ⟨#[109, 101, 108, 116, 32, 48, 49]⟩, .string ⟨#[99, 117, 116, 32, 53]⟩, .string ⟨#[32, 109, 97, 115, 115]⟩, .string ⟨#[115, 104, 105, 112, 32, 120]⟩, .string ⟨#[115, 104, 105, 112, 32, 49, 32, 49]⟩]
theorem badw_at : ∀ j, j < 7 → ∃ z : ByteArray, badwL[j]? = some (.string z) ∧ z.size ≤ 8
 | 0, _ => ⟨_, rfl, by decide⟩
 | 1, _ => ⟨_, rfl, by decide⟩
 | 2, _ => ⟨_, rfl, by decide⟩
 | 3, _ => ⟨_, rfl, by decide⟩
 | 4, _ => ⟨_, rfl, by decide⟩
 | 5, _ => ⟨_, rfl, by decide⟩
 | 6, _ => ⟨_, rfl, by decide⟩
 | k + 7, h => absurd h (by omega)
theorem badw_cell (w : World) (j : Nat) (z : ByteArray) (h : badwL[j]? = some (.string z)) : (w.alloc (.cells #[.string ⟨#[]⟩, .string ⟨#[109, 101, 108, 116]⟩, .string ⟨#[109, 101, 108, 116, 32, 48, 49]⟩, .string ⟨#[99, 117, 116, 32, 53]⟩, .string ⟨#[32, 109, 97, 115, 115]⟩, .string ⟨#[115, 104, 105, 112, 32, 120]⟩, .string ⟨#[115, 104, 105, 112, 32, 49, 32, 49]⟩] 9)).cell? ⟨w.heap.size, j, none⟩ = some (.string z) := by
 have := lit_cells w badwL 9 j _ h;rw [adds] at this;exact this
def LineDrawn (R k : Nat) (w : World) (e : Ending) (w' : World) : Prop :=
 ∃ t : ByteArray, e = .returned (.string t) ∧ t.size ≤ 60 ∧ Other R (R + 1) w w' ∧ Rd R k w'
theorem l20Line_any (R k base : Nat) (s p l h : Value) (m : Mi) (w : World) (hrd : Rd R k w) (hk : k ≤ 40000 - 10) (G : MillGot base w s p l h m) (hRb : R < base) (hf : Few m) :
 Calls Tryz.prog 76 #[.pointer (some ⟨R, 0, none⟩), millV s p l h m] w (LineDrawn R (k + 10) w) := by
 have hlt := hrd.lt;obtain ⟨ao1, cap1, rfl, -, -⟩ := G.so.form;obtain ⟨ao2, cap2, rfl, -, -⟩ := G.po.form;obtain ⟨ao3, cap3, rfl, -, -⟩ := G.lo.form;obtain ⟨ao4, cap4, rfl, -, -⟩ := G.ho.form;have HR_ := hide hrd;have HH := hide G;have hGb := G.hb;clear hrd G;unfold millV;go_enter Tryz.func76, Tryz.ntmps76;go_wp2_with fail
 refine calls_at fun wx hwx => ?_;have M_0 : RowL wx w.heap.size 31 [.slice ao1 m.store.length cap1, .int .i64 m.rule.lc, .int .i64 m.rule.hc, .int .i64 m.rule.lm, .int .i64 m.rule.hm, .int .i64 m.rule.ls, .int .i64 m.rule.hs, .int .i64 m.strand, .slice ao2 m.pieces.length cap2, .slice ao3 m.low.length cap3, .slice ao4 m.high.length cap4, .int .i64 m.scrap] := by rw [hwx]; exact RowL.new _ _ _
 have hb : Below w.heap.size w wx := by rw [hwx]; exact (Below.refl _ _).alloc nl _
 clear hwx;have V_0 := hide (HH.out.below hb);have HO0 := hide (Other.of_below (lo := R) (hi := R + 1) hb);have HR0 := hide (HR_.out.keep hb hlt);have hz0 := M_0.lt;clear hb;refine (pick_in R _ 4 wx HR0.out (by omega) (by omega) (by omega)).mono ?_;rintro e w1 ⟨c0, rfl, c00, c01, ho, hr⟩;have M_1 := M_0.other ho (by omega);have HO1 := hide (HO0.out.trans ho);have HR1 := hide hr;have hz1 := ho.size;have hRl1 := hr.lt;have V_1 := hide (V_0.out.other ho (by omega));clear ho hr;have hc : c0 = 0 ∨ c0 = 1 ∨ ((c0 == 0) = false ∧ (c0 == 1) = false) := by
  by_cases h0 : c0 = 0
  ·exact .inl h0
  ·by_cases h1 : c0 = 1
   ·exact .inr (.inl h1)
   ·exact .inr (.inr ⟨by rw [beq_eq_false_iff_ne]; exact h0, by rw [beq_eq_false_iff_ne]; exact h1⟩)
 rcases hc with rfl | rfl | ⟨hq0, hq1⟩
 ·go_wp2_with fail
  refine calls_at fun wy hwy => ?_;have hL := hide (show ∀ (j : Nat) (z : ByteArray), askwL[j]? = some (.string z) → wy.cell? ⟨w1.heap.size, j, none⟩ = some (.string z) from fun j z h => by rw [hwy]; exact askw_cell w1 j z h);have hb : Below w1.heap.size w1 wy := by rw [hwy]; exact (Below.refl _ _).alloc nl _
  have hly : w1.heap.size < wy.heap.size := by rw [hwy]; simp
  clear hwy;have HOy := hide (HO1.out.step hb HO1.out.size);have HRy := hide (HR1.out.keep hb hRl1);clear hb;refine (pick_in R _ 8 wy HRy.out (by omega) (by omega) (by omega)).mono ?_;rintro e w2 ⟨c, rfl, c0, c1, ho, hr⟩;obtain ⟨j, rfl⟩ : ∃ j : Nat, c = j := ⟨c.toNat, by omega⟩;obtain ⟨z, hz, hzl⟩ := askw_at j (by omega);have cL : w2.cell? ⟨w1.heap.size, j, none⟩ = some (.string z) := by rw [World.cell?_of_block (ho.block w1.heap.size hly (by omega))]; exact hL.out j z hz
  have HO2 := hide (HOy.out.trans ho);have HR2 := hide hr;clear ho hr hz;go_wp2_with fail
  go_ret;exact ⟨z, rfl, by omega, HO2.out, HR2.out.mono (by omega)⟩
 ·go_wp2_with fail
  refine calls_at fun wy hwy => ?_;have hL := hide (show ∀ (j : Nat) (z : ByteArray), badwL[j]? = some (.string z) → wy.cell? ⟨w1.heap.size, j, none⟩ = some (.string z) from fun j z h => by rw [hwy]; exact badw_cell w1 j z h);have hb : Below w1.heap.size w1 wy := by rw [hwy]; exact (Below.refl _ _).alloc nl _
  have hly : w1.heap.size < wy.heap.size := by rw [hwy]; simp
  clear hwy;have HOy := hide (HO1.out.step hb HO1.out.size);have HRy := hide (HR1.out.keep hb hRl1);clear hb;refine (pick_in R _ 7 wy HRy.out (by omega) (by omega) (by omega)).mono ?_;rintro e w2 ⟨c, rfl, c0, c1, ho, hr⟩;obtain ⟨j, rfl⟩ : ∃ j : Nat, c = j := ⟨c.toNat, by omega⟩;obtain ⟨z, hz, hzl⟩ := badw_at j (by omega);have cL : w2.cell? ⟨w1.heap.size, j, none⟩ = some (.string z) := by rw [World.cell?_of_block (ho.block w1.heap.size hly (by omega))]; exact hL.out j z hz
  have HO2 := hide (HOy.out.trans ho);have HR2 := hide hr;clear ho hr hz;go_wp2_with fail
  go_ret;exact ⟨z, rfl, by omega, HO2.out, HR2.out.mono (by omega)⟩
 ·skip
  obtain ⟨cM0, cM1, cM2, cM3, cM4, cM5, cM6, cM7, cM8, cM9, cM10, cM11⟩ := row12_c M_1;go_wp2_with fail
  have hde := l20MillDeed_any R _ (.slice ao1 m.store.length cap1) (.slice ao2 m.pieces.length cap2) (.slice ao3 m.low.length cap3) (.slice ao4 m.high.length cap4) m _ HR1.out (by omega) V_1.out.all hf;unfold millV at hde;refine hde.mono ?_;clear hde cM0 cM1 cM2 cM3 cM4 cM5 cM6 cM7 cM8 cM9 cM10 cM11;rintro e w2 ⟨dj, rfl, hd1, hd2, ho, hr⟩;have HO2 := hide (HO1.out.trans ho);have HR2 := hide hr;clear ho hr;go_wp2_with fail
  refine (dt_spec _ _ _ w2).mono ?_;rintro e w3 ⟨rfl, hb⟩;have HO3 := hide (HO2.out.step hb HO2.out.size);have HR3 := hide (HR2.out.keep hb HR2.out.lt);clear hb;have hl : (dtB dj.s dj.d dj.g).size ≤ 60 := dtJ_len dj;obtain ⟨D, hD⟩ : ∃ D, dtB dj.s dj.d dj.g = D := ⟨_, rfl⟩;rw [hD] at hl ⊢;clear hD;go_wp2_with fail
  go_ret;exact ⟨D, rfl, hl, HO3.out, HR3.out.mono (by omega)⟩
theorem drawMillAsk (v : Value) (n : Nat) (w : World) (hv : BytesAt 0 w.heap.size w v n) :
 Calls Tryz.prog 52 #[v] w fun e w' => ∃ s p l h m t, e = .returned (.tuple #[millV s p l h m, .string t]) ∧ t.size ≤ 60 ∧ MillGot w.heap.size w' s p l h m ∧ Few m ∧ Below w.heap.size w w' := by
 have HB0 := hide hv;clear hv;go_enter Tryz.func52, Tryz.ntmps52;go_wp2_with fail
 refine calls_at fun wx hwx => ?_;have Z_0 : RowL wx w.heap.size 31 [.slice none 0 0, .int .i64 0, .int .i64 0, .int .i64 0, .int .i64 0, .int .i64 0, .int .i64 0, .int .i64 0, .slice none 0 0, .slice none 0 0, .slice none 0 0, .int .i64 0] := by rw [hwx]; exact RowL.new _ _ _
 have hb : Below w.heap.size w wx := by rw [hwx]; exact (Below.refl _ _).alloc nl _
 have HBx := hide ((HB0.out.below hb nl).mono hb.size nl);have B_0 := hide hb;have hz0 := Z_0.lt;clear hwx hb;refine (open_any v n wx HBx.out).mono ?_;rintro e w1 ⟨R, rfl, hR, hb, hr⟩;have Z_1 := Z_0.below hb Z_0.lt;have B_1 := hide (Below.step B_0.out hb nl);have HR1 := hide hr;have hRl := hr.lt;have hz1 := hb.size;clear hb hr;go_wp2_with fail
 refine (l20Mill_any R _ 9 w1 HR1.out (by omega) (by omega) (by omega)).mono ?_;rintro e w2 ⟨s, p, l, h, m, rfl, G, hf, ho, hr⟩;obtain ⟨aS0, cs0, rfl, -, -⟩ := G.so.form;obtain ⟨ap0, cp0, rfl, -, -⟩ := G.po.form;obtain ⟨al0, cl0, rfl, -, -⟩ := G.lo.form;obtain ⟨ah0, ch0, rfl, -, -⟩ := G.ho.form;have G_2 := hide G;have Z_2 := Z_1.other ho (by omega);have B_2 := hide (B_1.out.trans (ho.below (by omega) B_1.out.size));have HR2 := hide hr;have hz2 := ho.size;clear ho hr G;unfold millV;go_wp2_with fail
 obtain ⟨wm, hwm⟩ : ∃ q : World, q = w2.alloc (.cells #[.slice aS0 m.store.length cs0, .int .i64 m.rule.lc, .int .i64 m.rule.hc, .int .i64 m.rule.lm, .int .i64 m.rule.hm, .int .i64 m.rule.ls, .int .i64 m.rule.hs, .int .i64 m.strand, .slice ap0 m.pieces.length cp0, .slice al0 m.low.length cl0, .slice ah0 m.high.length ch0, .int .i64 m.scrap] 31) := ⟨_, rfl⟩;rw [← hwm];have M_m : RowL wm w2.heap.size 31 [.slice aS0 m.store.length cs0, .int .i64 m.rule.lc, .int .i64 m.rule.hc, .int .i64 m.rule.lm, .int .i64 m.rule.hm, .int .i64 m.rule.ls, .int .i64 m.rule.hs, .int .i64 m.strand, .slice ap0 m.pieces.length cp0, .slice al0 m.low.length cl0, .slice ah0 m.high.length ch0, .int .i64 m.scrap] := by rw [hwm]; exact RowL.new _ _ _
 have hb : Below w2.heap.size w2 wm := by rw [hwm]; exact (Below.refl _ _).alloc nl _
 have Z_m := Z_2.below hb Z_2.lt;have G_m := hide (G_2.out.below hb);have B_m := hide (Below.step B_2.out hb nl);have HRm := hide (HR2.out.keep hb HR2.out.lt);have hzm := hb.size;have hlM := M_m.lt;clear hwm hb;have hI := row12_all M_m.drew;have hbd : Below wm.heap.size wm (World.drew wm) := (Below.refl _ _).drew;have Z_d := Z_m.drew;have M_d := M_m.drew;have G_d := hide (G_m.out.below hbd);have HRd := hide (show Rd R _ (World.drew wm) from HRm.out.keep hbd HRm.out.lt);have B_d := hide (Below.step B_m.out hbd nl);have hzd : (World.drew wm).heap.size = wm.heap.size := rfl;have hlM_d := M_d.lt;have T0 := other12 w.heap.size (World.drew wm) (.slice aS0 m.store.length cs0) (.int .i64 m.rule.lc) (.int .i64 m.rule.hc) (.int .i64 m.rule.lm) (.int .i64 m.rule.hm) (.int .i64 m.rule.ls) (.int .i64 m.rule.hs) (.int .i64 m.strand) (.slice ap0 m.pieces.length cp0) (.slice al0 m.low.length cl0) (.slice ah0 m.high.length ch0) (.int .i64 m.scrap);have Z_s := row12 Z_d rfl (.slice aS0 m.store.length cs0) (.int .i64 m.rule.lc) (.int .i64 m.rule.hc) (.int .i64 m.rule.lm) (.int .i64 m.rule.hm) (.int .i64 m.rule.ls) (.int .i64 m.rule.hs) (.int .i64 m.strand) (.slice ap0 m.pieces.length cp0) (.slice al0 m.low.length cl0) (.slice ah0 m.high.length ch0) (.int .i64 m.scrap);have M_s := M_d.other T0 (by omega);have G_s := hide (G_d.out.past Z_d T0);have HRs := hide (HRd.out.past Z_d (by omega) no8_zero T0);have B_s := hide (B_d.out.trans (T0.below nl B_d.out.size));have hIs := row12_all M_s;have hzs := T0.size;obtain ⟨zc0, zc1, zc2, zc3, zc4, zc5, zc6, zc7, zc8, zc9, zc10, zc11⟩ := row12_c Z_d;obtain ⟨zf0, zf1, zf2, zf3, zf4, zf5, zf6, zf7, zf8, zf9, zf10, zf11⟩ := row12_f Z_d;clear hbd T0
 go_cut [3] from 10 to 13 (fun x W => ∃ t : ByteArray, x = .string t ∧ t.size ≤ 60 ∧ MillIsAt w.heap.size w.heap.size w (.slice aS0 m.store.length cs0) (.slice ap0 m.pieces.length cp0) (.slice al0 m.low.length cl0) (.slice ah0 m.high.length ch0) m W)
 case first =>
  go_region_held (fun W => W.cell? ⟨w2.heap.size, 0, none⟩ = some (.slice aS0 m.store.length cs0) ∧ W.cell? ⟨w2.heap.size, 1, none⟩ = some (.int .i64 m.rule.lc) ∧ W.cell? ⟨w2.heap.size, 2, none⟩ = some (.int .i64 m.rule.hc) ∧ W.cell? ⟨w2.heap.size, 3, none⟩ = some (.int .i64 m.rule.lm) ∧ W.cell? ⟨w2.heap.size, 4, none⟩ = some (.int .i64 m.rule.hm) ∧ W.cell? ⟨w2.heap.size, 5, none⟩ = some (.int .i64 m.rule.ls) ∧ W.cell? ⟨w2.heap.size, 6, none⟩ = some (.int .i64 m.rule.hs) ∧ W.cell? ⟨w2.heap.size, 7, none⟩ = some (.int .i64 m.strand) ∧ W.cell? ⟨w2.heap.size, 8, none⟩ = some (.slice ap0 m.pieces.length cp0) ∧ W.cell? ⟨w2.heap.size, 9, none⟩ = some (.slice al0 m.low.length cl0) ∧ W.cell? ⟨w2.heap.size, 10, none⟩ = some (.slice ah0 m.high.length ch0) ∧ W.cell? ⟨w2.heap.size, 11, none⟩ = some (.int .i64 m.scrap)) (first | (with_reducible exact hI) | (with_reducible exact hIs) | (with_reducible exact hS6) | (with_reducible exact K1)) (first
   | (go_at_call 76; first | ((have hd := l20Line_any R _ w1.heap.size (.slice aS0 m.store.length cs0) (.slice ap0 m.pieces.length cp0) (.slice al0 m.low.length cl0) (.slice ah0 m.high.length ch0) m _ HRd.out (by omega) G_d.out (by omega) hf; (try unfold millV at hd); (with_reducible refine hd.mono ?_)); clear hd; rintro e w6 ⟨t6, rfl, ht6, ho, hr⟩; (have M_6 := M_d.other ho (by omega); have Z_6 := Z_d.other ho (by omega); have G_6 := hide (G_d.out.other ho (by omega)); have B_6 := hide (B_d.out.trans (ho.below (by omega) B_d.out.size))); have hS6 := row12_all M_6; have hz6 := ho.size; obtain ⟨zc0, zc1, zc2, zc3, zc4, zc5, zc6, zc7, zc8, zc9, zc10, zc11⟩ := row12_c Z_6; obtain ⟨zf0, zf1, zf2, zf3, zf4, zf5, zf6, zf7, zf8, zf9, zf10, zf11⟩ := row12_f Z_6; have K1 := row12_all (M_6.other (other12 w.heap.size w6 (.slice aS0 m.store.length cs0) (.int .i64 m.rule.lc) (.int .i64 m.rule.hc) (.int .i64 m.rule.lm) (.int .i64 m.rule.hm) (.int .i64 m.rule.ls) (.int .i64 m.rule.hs) (.int .i64 m.strand) (.slice ap0 m.pieces.length cp0) (.slice al0 m.low.length cl0) (.slice ah0 m.high.length ch0) (.int .i64 m.scrap)) (by omega)); clear ho hr) | ((have hd := l20Line_any R _ w1.heap.size (.slice aS0 m.store.length cs0) (.slice ap0 m.pieces.length cp0) (.slice al0 m.low.length cl0) (.slice ah0 m.high.length ch0) m _ HRs.out (by omega) G_s.out (by omega) hf; (try unfold millV at hd); (with_reducible refine hd.mono ?_)); clear hd; rintro e w6 ⟨t6, rfl, ht6, ho, hr⟩; (have M_6 := M_s.other ho (by omega); have Z_6 := Z_s.other ho (by omega); have G_6 := hide (G_s.out.other ho (by omega)); have B_6 := hide (B_s.out.trans (ho.below (by omega) B_s.out.size))); have hS6 := row12_all M_6; have hz6 := ho.size; obtain ⟨zc0, zc1, zc2, zc3, zc4, zc5, zc6, zc7, zc8, zc9, zc10, zc11⟩ := row12_c Z_6; obtain ⟨zf0, zf1, zf2, zf3, zf4, zf5, zf6, zf7, zf8, zf9, zf10, zf11⟩ := row12_f Z_6; have K1 := row12_all (M_6.other (other12 w.heap.size w6 (.slice aS0 m.store.length cs0) (.int .i64 m.rule.lc) (.int .i64 m.rule.hc) (.int .i64 m.rule.lm) (.int .i64 m.rule.hm) (.int .i64 m.rule.ls) (.int .i64 m.rule.hs) (.int .i64 m.strand) (.slice ap0 m.pieces.length cp0) (.slice al0 m.low.length cl0) (.slice ah0 m.high.length ch0) (.int .i64 m.scrap)) (by omega)); clear ho hr)))
  all_goals
   go_wp2_with fail
   go_meet;first
    | (have hx := mia_z (b := w.heap.size) Z_6 rfl G_6.out B_6.out (by omega) nl nl
       with_reducible exact ⟨t6, rfl, ht6, hx⟩)
    | (have hx := mia_0 (b := w.heap.size) Z_6 G_6.out B_6.out (by omega)
       with_reducible exact ⟨t6, rfl, ht6, hx⟩)
 clear hI hIs;obtain ⟨t, rfl, htl, Z_f, G, hB⟩ := hcut;have Z_f : RowL wc w.heap.size 31 [.slice aS0 m.store.length cs0, .int .i64 m.rule.lc, .int .i64 m.rule.hc, .int .i64 m.rule.lm, .int .i64 m.rule.hm, .int .i64 m.rule.ls, .int .i64 m.rule.hs, .int .i64 m.strand, .slice ap0 m.pieces.length cp0, .slice al0 m.low.length cl0, .slice ah0 m.high.length ch0, .int .i64 m.scrap] := Z_f;obtain ⟨cZ0, cZ1, cZ2, cZ3, cZ4, cZ5, cZ6, cZ7, cZ8, cZ9, cZ10, cZ11⟩ := row12_c Z_f;go_wp2_with fail
 refine bodyPost_ret (by simp [results, Tryz.results52, go_sem, cZ0, cZ1, cZ2, cZ3, cZ4, cZ5, cZ6, cZ7, cZ8, cZ9, cZ10, cZ11]; try rfl) rfl ?_;exact ⟨_, _, _, _, m, t, rfl, htl, G, hf, hB⟩
def rdGq : Int → List UInt8 → Option Int
 | n, [] => some n
 | n, b :: l => if b.toNat < 48 ∨ 57 < b.toNat then none else if 999 < 10 * n + ((b.toNat : Int) - 48) then none else rdGq (10 * n + ((b.toNat : Int) - 48)) l
def rdNq (s : ByteArray) : Option Int :=
 if s.size = 0 then none else if (s.data.toList.headD 0).toNat = 48 ∧ 1 < s.size then none else rdGq 0 s.data.toList
theorem rdGq_none {n : Int} {b : UInt8} {l : List UInt8} (h : b.toNat < 48 ∨ 57 < b.toNat) : rdGq n (b :: l) = none := by rw [rdGq, if_pos h]
theorem rdGq_big {n : Int} {b : UInt8} {l : List UInt8} (h : ¬ (b.toNat < 48 ∨ 57 < b.toNat)) (h' : 999 < 10 * n + ((b.toNat : Int) - 48)) : rdGq n (b :: l) = none := by rw [rdGq, if_neg h, if_pos h']
theorem rdGq_step {n : Int} {b : UInt8} {l : List UInt8} (h : ¬ (b.toNat < 48 ∨ 57 < b.toNat)) (h' : ¬ 999 < 10 * n + ((b.toNat : Int) - 48)) : rdGq n (b :: l) = rdGq (10 * n + ((b.toNat : Int) - 48)) l := by rw [rdGq, if_neg h, if_neg h']
theorem readNumq_any (s : ByteArray) (w : World) (hs : s.size ≤ 9223372036854775807) :
 Calls Tryz.prog 125 #[.string s, .int .i64 999] w fun e w' => e = .returned (optV (rdNq s)) ∧ w = w' := by
 have hem := empty_iff s;by_cases hz : s.size = 0
 ·have hr : rdNq s = none := by rw [rdNq, if_pos hz]
  rw [decide_eq_true hz] at hem;rw [hr];go_enter Tryz.func125, Tryz.ntmps125
  go_wp2
  go_ret2
  exact ⟨rfl, rfl⟩
 rw [decide_eq_false hz] at hem;have hpos : 0 < s.size := by omega
 obtain ⟨b0, hb0⟩ : ∃ b : Nat, (s[0]'hpos).toNat = b := ⟨_, rfl⟩;have hhd : (s.data.toList.headD 0).toNat = b0 := by rw [head_byte s hpos]; exact hb0
 have hb0' : b0 < 256 := by rw [← hb0]; exact UInt8.toNat_lt _
 have hpi : (0 : Int) < (s.size : Int) := by omega
 by_cases hlead : b0 = 48 ∧ 1 < s.size
 ·have hr : rdNq s = none := by rw [rdNq, if_neg hz, if_pos (by rw [hhd]; exact hlead)]
  rw [hr];obtain ⟨rfl, h1⟩ := hlead;have h1B : decide ((1 : Int) < (s.size : Int)) = true := by simp; omega
  clear hhd;go_enter Tryz.func125, Tryz.ntmps125
  go_wp2
  go_ret2
  exact ⟨rfl, rfl⟩
 have hr : rdNq s = rdGq 0 s.data.toList := by rw [rdNq, if_neg hz, if_neg (by rw [hhd]; exact hlead)]
 have HR := hide hr;clear hr hhd;have hT : (((b0 : Int) == 48) && decide ((1 : Int) < (s.size : Int))) = false := by
  rw [Bool.and_eq_false_iff];by_cases h : b0 = 48
  ·right; simp; omega
  ·left; simp; omega
 have hlead' : ((b0 : Int) == 48) = false ∨ (((b0 : Int) == 48) = true ∧ decide ((1 : Int) < (s.size : Int)) = false) := by
  rcases h1 : ((b0 : Int) == 48)
  ·left; rfl
  ·right; rw [h1] at hT; exact ⟨rfl, by simpa using hT⟩
 clear hT hlead;rcases hlead' with h1 | ⟨h1, h2⟩;all_goals
  go_enter Tryz.func125, Tryz.ntmps125;go_wp2_with fail
  clear hb0
  go_loop [6, 7] (fun n i => ∃ (k : Nat) (a : Int), k ≤ s.size ∧ i = .int .i64 k ∧ n = .int .i64 a ∧ 0 ≤ a ∧ a ≤ 999 ∧ rdGq 0 s.data.toList = rdGq a (s.data.toList.drop k)) (fun _ i => s.size - (intOf i).toNat)
  case atStart => exact ⟨0, 0, Nat.zero_le _, rfl, rfl, by omega, by omega, rfl⟩
  case round =>
   obtain ⟨k, a, hk, rfl, rfl, ha0, ha1, hgo⟩ := hrel;have HG := hide hgo;clear hgo;by_cases hlt : k < s.size
   ·have HD := hide (drop_byte s k hlt)
    obtain ⟨u, hu⟩ : ∃ u, s[k]'hlt = u := ⟨_, rfl⟩;rw [hu] at HD;obtain ⟨b, hb⟩ : ∃ b : Nat, u.toNat = b := ⟨_, rfl⟩;have hb' : b < 256 := by rw [← hb]; exact UInt8.toNat_lt _
    have hki : (k : Int) < (s.size : Int) := by omega
    have hk0 : (0 : Int) ≤ (k : Int) := by omega
    by_cases hlo : b < 48
    ·have hloB : decide ((b : Int) < 48) = true := by simp; omega
     have HF := hide (show optV (rdNq s) = optV none by rw [HR.out, HG.out, HD.out, rdGq_none (by rw [hb]; exact .inl hlo)]);go_wp2_with fail
     go_ret2
     exact ⟨by rw [HF.out]; rfl, rfl⟩
    have hloB : decide ((b : Int) < 48) = false := by simp; omega
    by_cases hhi : 57 < b
    ·have hhiB : decide ((57 : Int) < (b : Int)) = true := by simp; omega
     have HF := hide (show optV (rdNq s) = optV none by rw [HR.out, HG.out, HD.out, rdGq_none (by rw [hb]; exact .inr hhi)]);go_wp2_with fail
     go_ret2
     exact ⟨by rw [HF.out]; rfl, rfl⟩
    have hhiB : decide ((57 : Int) < (b : Int)) = false := by simp; omega
    by_cases hbg : 999 < 10 * a + ((b : Int) - 48)
    ·have hbgB : decide (999 < 10 * a + ((b : Int) - 48)) = true := by simp; omega
     have HF := hide (show optV (rdNq s) = optV none by rw [HR.out, HG.out, HD.out, rdGq_big (by rw [hb]; omega) (by rw [hb]; exact hbg)]);go_wp2_with fail
     go_ret2
     exact ⟨by rw [HF.out]; rfl, rfl⟩
    have hbgB : decide (999 < 10 * a + ((b : Int) - 48)) = false := by simp; omega
    have HF := hide (show rdGq 0 s.data.toList = rdGq (10 * a + ((b : Int) - 48)) (s.data.toList.drop (k + 1)) by rw [HG.out, HD.out, rdGq_step (by rw [hb]; omega) (by rw [hb]; exact hbg), hb]);go_wp2_with fail
    go_round
    case rel => exact ⟨k + 1, 10 * a + ((b : Int) - 48), by omega, by go_num, rfl, by omega, by omega, HF.out⟩
    case measure => simp [intOf]; omega
   ·have hkn : k = s.size := by omega
    have HF := hide (show optV (rdNq s) = optV (some a) by rw [HR.out, HG.out, hkn, List.drop_of_length_le (Nat.le_of_eq (size_len s)), rdGq]);go_wp2_with fail
    go_ret2
    exact ⟨by rw [HF.out]; rfl, rfl⟩
theorem rdGq_val : ∀ (l : List UInt8) (acc m : Int), 0 ≤ acc → acc ≤ 999 → (rdGq acc l = some m ↔ allD l ∧ valG acc l = m ∧ m ≤ 999)
 | [], acc, m, h0, h9 => by
  simp only [rdGq, Option.some.injEq, valG, List.foldl_nil, allD, List.not_mem_nil, false_implies, implies_true, true_and];constructor
  ·rintro rfl; exact ⟨rfl, h9⟩
  ·rintro ⟨h, _⟩; exact h
 | b :: l, acc, m, h0, h9 => by
  by_cases hb : b.toNat < 48 ∨ 57 < b.toNat
  ·rw [rdGq_none hb]
   constructor
   ·intro h; cases h
   ·rintro ⟨hd, _⟩; have := hd b (by simp); omega
  ·by_cases hg : 999 < 10 * acc + ((b.toNat : Int) - 48)
   ·rw [rdGq_big hb hg]
    constructor
    ·intro h; cases h
    ·rintro ⟨hd, hv, hm⟩
     have := valG_ge l (10 * acc + ((b.toNat : Int) - 48)) (by omega) (fun x hx => hd x (by simp [hx]));rw [valG_cons] at hv; omega
   ·rw [rdGq_step hb hg, rdGq_val l _ m (by omega) (by omega), valG_cons]
    constructor
    ·rintro ⟨hd, h⟩
     refine ⟨fun x hx => ?_, h⟩;rcases List.mem_cons.1 hx with rfl | hx
     ·omega
     ·exact hd x hx
    ·rintro ⟨hd, h⟩; exact ⟨fun x hx => hd x (by simp [hx]), h⟩
theorem rdNq_num {n : Int} (h0 : 0 ≤ n) (h9 : n ≤ 999) : rdNq (numB n) = some n := by
 have hd := numB_data n h0;obtain ⟨c1, c2, c3⟩ := canon_dec n.toNat;have hv := (dec_props n.toNat).2.2.1;have hs := size_len (numB n);rw [hd] at hs;have hne : (numB n).size ≠ 0 := fun e => c1 (List.length_eq_zero_iff.1 (by omega));unfold rdNq;rw [if_neg hne, hd, if_neg (by rw [← hs]; exact c3)];exact (rdGq_val _ 0 n (Int.le_refl _) (by omega)).2 ⟨c2, by rw [hv]; omega, h9⟩
def cut47 : List UInt8 → List (List UInt8)
 | [] => [[]]
 | b :: l => if b = 47 then [] :: cut47 l else glue [b] (cut47 l)
def partsS (s : ByteArray) : List ByteArray := Lib.splitB slB 0 (Lib.countB s slB) s
theorem partsS_len (s : ByteArray) : (partsS s).length = Lib.countB s slB + 1 := Lib.splitB_all slB (by decide) 0 _ s rfl
theorem cutS_at : ∀ (a l : List UInt8), (∀ b ∈ a, b ≠ 47) → cut47 (a ++ 47 :: l) = a :: cut47 l
 | [], l, _ => by rw [List.nil_append, cut47, if_pos rfl]
 | b :: a, l, h => by
  rw [List.cons_append, cut47, if_neg (h b (by simp)), cutS_at a l (fun x hx => h x (by simp [hx]))]; rfl
theorem cutS_whole : ∀ (a : List UInt8), (∀ b ∈ a, b ≠ 47) → cut47 a = [a]
 | [], _ => rfl
 | b :: a, h => by rw [cut47, if_neg (h b (by simp)), cutS_whole a (fun x hx => h x (by simp [hx]))]; rfl
theorem indexS (s : ByteArray) : Lib.indexB s slB = Lib.indexByte s.data.toList 47 := by
 show Lib.index s.data.toList slB.data.toList = _
 exact Lib.index_one s.data.toList 47
theorem cutS_miss (l : List UInt8) (h : Lib.indexByte l 47 = -1) : cut47 l = [l] :=
 cutS_whole l (fun b hb e => by
  obtain ⟨i, hi, e'⟩ := List.getElem_of_mem hb;exact Lib.indexByte_none h i (by rw [List.getElem?_eq_getElem hi, e', e]))
theorem cutS_hit (l : List UInt8) (i : Nat) (h : Lib.indexByte l 47 = i) : cut47 l = l.take i :: cut47 (l.drop (i + 1)) := by
 obtain ⟨h1, h2⟩ := Lib.indexByte_some h;obtain ⟨hi, e⟩ := List.getElem?_eq_some_iff.1 h1;have hl : l = l.take i ++ 47 :: l.drop (i + 1) := by
  rw [← e, ← List.drop_eq_getElem_cons hi, List.take_append_drop]
 conv => lhs; rw [hl]
 refine cutS_at _ _ fun b hb e => ?_;obtain ⟨j, hj, e'⟩ := List.getElem_of_mem hb;simp only [List.length_take] at hj;refine h2 j (by omega) ?_;rw [List.getElem_take] at e';rw [List.getElem?_eq_getElem (by omega), e', e]
theorem partsS_cut' : ∀ (k : Nat) (s : ByteArray), Lib.countB s slB = k → (Lib.splitB slB 0 k s).map (·.data.toList) = cut47 s.data.toList
 | k, s, hk => by
  rcases Lib.indexB_cases s slB with h | ⟨i, h, hi⟩
  ·rw [Lib.splitB_miss _ _ _ _ h, cutS_miss _ (by rw [← indexS]; exact h)]
   rfl
  ·have hc := Lib.countB_hit s slB i (by decide) h
   cases k with
   | zero => omega
   | succ k =>
    rw [Lib.splitB_hit _ _ _ _ i h, List.map_cons, partsS_cut' k _ (by omega), cutS_hit s.data.toList i (by rw [← indexS]; exact h)];have e1 : (s.extract 0 (i + 0)).data.toList = s.data.toList.take i := by rw [Lib.extract_data]; simp
    have e2 : (s.extract (i + slB.size) s.size).data.toList = s.data.toList.drop (i + 1) := by
     rw [Lib.extract_data];show List.take _ (List.drop (i + 1) _) = _
     rw [List.take_of_length_le];rw [List.length_drop, size_len];exact Nat.le_refl _
    rw [e1, e2]
theorem partsS_cut (s : ByteArray) : (partsS s).map (·.data.toList) = cut47 s.data.toList := partsS_cut' _ s rfl
theorem splitS_any (s : ByteArray) (m : Int) (w : World) (hs : s.size < 4294967281) (hm : w.cell? ⟨1, 0, none⟩ = some (.int .i64 m)) :
 Calls Tryz.prog 124 #[.string s, .string ⟨#[47]⟩] w fun e w' => e = .returned (.slice (some ⟨w.heap.size, 0, none⟩) (partsS s).length (partsS s).length) ∧ StrsAt w' w.heap.size (partsS s) ∧ Below w.heap.size w w' := by
 refine (Tryz.strings_Split s slB m w hs hm (by decide)).mono ?_;rintro e w' ⟨rfl, rfl⟩;rw [partsS_len];refine ⟨rfl, ⟨by simp, fun i hi => ?_⟩, (Below.refl _ _).alloc nl _⟩;rw [Go.Joins.cell_alloc_mark_at _ _ _ _ _ _ rfl];simp [partsS] at hi ⊢;first | (rw [List.getElem?_eq_getElem hi]; done) | (rw [List.getElem?_eq_getElem hi]; rfl) | skip
theorem index45 : ∀ l : List UInt8, Lib.index l [45] = if 45 ∈ l then ((l.takeWhile (· != 45)).length : Int) else -1
 | [] => by simp [Lib.index]
 | b :: l => by
  have ih := index45 l;by_cases hb : b = 45
  ·subst hb; simp [Lib.index, List.isPrefixOf]
  ·have h1 : ([45] : List UInt8).isPrefixOf (b :: l) = false := by simp [List.isPrefixOf, Ne.symm hb]
   have h2 : (45 ∈ b :: l) ↔ 45 ∈ l := ⟨fun h => (List.mem_cons.1 h).resolve_left fun e => hb e.symm, fun h => List.mem_cons_of_mem _ h⟩;have h3 : (b != 45) = true := by simp [hb]
   unfold Lib.index;rw [h1, ih];simp only [h2, List.takeWhile_cons, h3, if_true];by_cases hm : 45 ∈ l
   ·rw [if_pos hm, if_pos hm]
    have : (((l.takeWhile (· != 45)).length : Int) == -1) = false := by rw [beq_eq_false_iff_ne]; omega
    simp [this]
   ·rw [if_neg hm, if_neg hm]; simp
theorem tw_take45 (l : List UInt8) : l.take (l.takeWhile (· != 45)).length = l.takeWhile (· != 45) := by
 conv => lhs; arg 2; rw [← List.takeWhile_append_dropWhile (p := fun x => x != 45) (l := l)]
 rw [List.take_append_of_le_length nl, List.take_length]
theorem cut45 (l : List UInt8) : Lib.cut l [45] = if 45 ∈ l then (l.takeWhile (· != 45), l.drop ((l.takeWhile (· != 45)).length + 1), true) else (l, [], false) := by
 unfold Lib.cut;rw [index45];by_cases h : 45 ∈ l
 ·rw [if_pos h, if_pos (by omega), if_pos h, Int.toNat_natCast, tw_take45]; rfl
 ·rw [if_neg h, if_neg (by omega), if_neg h]
theorem drop_sep (a l : List UInt8) (c : UInt8) : (a ++ c :: l).drop (a.length + 1) = l := by
 rw [List.drop_append]; simp
theorem tw_app45 {a l : List UInt8} (h : 45 ∉ a) : (a ++ 45 :: l).takeWhile (· != 45) = a := by
 rw [List.takeWhile_append_of_pos]
 ·simp
 ·intro x hx
  simp only [bne_iff_ne, ne_eq];rintro rfl; exact h hx
theorem num_no {c : UInt8} (hc : c.toNat < 48) {n : Int} (h : 0 ≤ n) : ∀ b ∈ (numB n).data.toList, b ≠ c := fun b hb e => by
 rw [numB_data n h] at hb;have := (dec_props n.toNat).1 b hb;subst e;omega
theorem range_data (a b : Int) : (rangeB a b).data.toList = (numB a).data.toList ++ 45 :: (numB b).data.toList := by
 unfold rangeB hyB;simp
theorem range_no47 {a b : Int} (ha : 0 ≤ a) (hb : 0 ≤ b) : ∀ x ∈ (rangeB a b).data.toList, x ≠ 47 := by
 intro x hx;rw [range_data, List.mem_append, List.mem_cons] at hx;rcases hx with hx | rfl | hx
 ·exact num_no (by decide) ha x hx
 ·decide
 ·exact num_no (by decide) hb x hx
theorem range_cut {a b : Int} (ha : 0 ≤ a) : Lib.cut (rangeB a b).data.toList [45] = ((numB a).data.toList, (numB b).data.toList, true) := by
 have hn : 45 ∉ (numB a).data.toList := fun h => num_no (c := 45) (by decide) ha 45 h rfl;rw [range_data, cut45, if_pos (by simp), tw_app45 hn, drop_sep]
theorem grade_parts {g : Gr} (h : grB g = true) (h1 : 0 ≤ g.lc ∧ 0 ≤ g.hc) (h2 : 0 ≤ g.lm ∧ 0 ≤ g.hm) (h3 : 0 ≤ g.ls ∧ 0 ≤ g.hs) :
 partsS (gradeB g) = [rangeB g.lc g.hc, rangeB g.lm g.hm, rangeB g.ls g.hs] := by
 apply list_of_data;rw [partsS_cut];have e : (gradeB g).data.toList = (rangeB g.lc g.hc).data.toList ++ 47 :: ((rangeB g.lm g.hm).data.toList ++ 47 :: (rangeB g.ls g.hs).data.toList) := by
  unfold gradeB;rw [if_pos h];simp [slB]
 rw [e, cutS_at _ _ (range_no47 h1.1 h1.2), cutS_at _ _ (range_no47 h2.1 h2.2), cutS_whole _ (range_no47 h3.1 h3.2)];rfl
end Go.Proofs.YtmemgbklgcjobaaGreatDoor
