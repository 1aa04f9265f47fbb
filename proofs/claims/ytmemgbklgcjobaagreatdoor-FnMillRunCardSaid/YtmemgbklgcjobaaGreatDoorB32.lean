/-
  Parts of the proofs over mills, of: DoAS, DrawMH. Conditions: each theorem states its own.
-/
import Derived.Test.YtmemgbklgcjobaaGreatDoorB26
import Derived.Test.YtmemgbklgcjobaaGreatDoorB28
import Derived.Test.YtmemgbklgcjobaaGreatDoorB29
import Derived.Test.YtmemgbklgcjobaaGreatDoorB30
import Derived.Test.YtmemgbklgcjobaaGreatDoorB31
set_option linter.unusedSimpArgs false
set_option linter.unusedVariables false
set_option maxRecDepth 10000
namespace Go.Proofs.YtmemgbklgcjobaaGreatDoor
open Go.RowKit
theorem do_spec (s p l h : Value) (m : Mi) (d : J) (w : World) (H : MillIn 0 w.heap.size w s p l h m) (ha : d.d ≤ 9223372036854775807) (hb : d.g ≤ 9223372036854775807) :
    Calls Tryz.prog 45 #[millV s p l h m, .agg #[.int .i64 d.s, .int .i64 d.d, .int .i64 d.g]] w (DoGot w.heap.size (doR m d) w) := by
  obtain ⟨k, a, b⟩ := d
  by_cases e0 : k = 0
  · subst e0; exact do_s0 s p l h m a b w H ha hb
  by_cases e1 : k = 1
  · subst e1; exact do_s1 s p l h m a b w H ha hb
  by_cases e2 : k = 2
  · subst e2; exact do_s2 s p l h m a b w H ha hb
  by_cases e3 : k = 3
  · subst e3; exact do_s3 s p l h m a b w H ha hb
  by_cases e4 : k = 4
  · subst e4; exact do_s4 s p l h m a b w H ha hb
  exact do_sx s p l h m k a b w H ha hb (by simpa using e0) (by simpa using e1) (by simpa using e2) (by simpa using e3) (by simpa using e4)
def MillDrawn (R k : Nat) (w : World) (e : Ending) (w' : World) : Prop :=
  ∃ s p l h m, e = .returned (millV s p l h m) ∧ MillGot w.heap.size w' s p l h m ∧ Few m ∧ Other R (R + 1) w w' ∧ Rd R k w'
theorem start_got {base : Nat} {w : World} {s l h : Value} {m : Mi} (hb : base ≤ w.heap.size) (so : OwnE base 65 5 w s m.store.length (flatS m.store)) (po : PileOwn base w l h m.low m.high) (sl : Apart s l) (sh : Apart s h) (hp : m.pieces = []) :
    MillGot base w s (.slice none 0 0) l h m :=
  ⟨hb, so, by rw [hp]; exact OwnE.own (World.ownsRow_nil _ _ _ _), po.lo, po.ho, (apart_nil _ _).symm, sl, sh, apart_nil _ _, apart_nil _ _, po.ap⟩
theorem rule_put {base M : Nat} {w : World} {s p l h : Value} {m : Mi} (r : RowL w M 31 (millC s p l h m)) (G : MillGot base w s p l h m) (g : Gr) (W : World) (hW : W = ((((((w.setCell ⟨M, 1, none⟩ (.int .i64 g.lc)).setCell ⟨M, 2, none⟩ (.int .i64 g.hc)).setCell ⟨M, 3, none⟩ (.int .i64 g.lm)).setCell ⟨M, 4, none⟩ (.int .i64 g.hm)).setCell ⟨M, 5, none⟩ (.int .i64 g.ls)).setCell ⟨M, 6, none⟩ (.int .i64 g.hs))) :
    RowL W M 31 (millC s p l h { m with rule := g }) ∧ MillGot base W s p l h { m with rule := g } ∧ Other M (M + 1) w W := by
  have T : Other M (M + 1) w W := by rw [hW]; exact (Other.setCell (p := ⟨M, 6, none⟩) (Other.setCell (p := ⟨M, 5, none⟩) (Other.setCell (p := ⟨M, 4, none⟩) (Other.setCell (p := ⟨M, 3, none⟩) (Other.setCell (p := ⟨M, 2, none⟩) (Other.setCell (p := ⟨M, 1, none⟩) (Other.refl _ _ _) (Nat.le_refl _) (Nat.lt_succ_self _) _) (Nat.le_refl _) (Nat.lt_succ_self _) _) (Nat.le_refl _) (Nat.lt_succ_self _) _) (Nat.le_refl _) (Nat.lt_succ_self _) _) (Nat.le_refl _) (Nat.lt_succ_self _) _) (Nat.le_refl _) (Nat.lt_succ_self _) _)
  refine ⟨?_, (G.past r T).nums g m.strand m.scrap, T⟩
  rw [hW]
  exact (((((r.set 1 _ (by simp [millC])).set 2 _ (by simp [millC])).set 3 _ (by simp [millC])).set 4 _ (by simp [millC])).set 5 _ (by simp [millC])).set 6 _ (by simp [millC])
theorem num_put {base M : Nat} {w : World} {s p l h : Value} {m : Mi} (r : RowL w M 31 (millC s p l h m)) (G : MillGot base w s p l h m) (a b : Int) (W : World) (i : Nat) (u : Value) (hW : W = w.setCell ⟨M, i, none⟩ u) (hu : (millC s p l h m).set i u = millC s p l h { m with strand := a, scrap := b }) (hi : i < 12) :
    RowL W M 31 (millC s p l h { m with strand := a, scrap := b }) ∧ MillGot base W s p l h { m with strand := a, scrap := b } ∧ Other M (M + 1) w W := by
  have T : Other M (M + 1) w W := by rw [hW]; exact Other.setCell (p := ⟨M, i, none⟩) (Other.refl _ _ _) (Nat.le_refl _) (Nat.lt_succ_self _) _
  refine ⟨?_, (G.past r T).nums m.rule a b, T⟩
  rw [hW, ← hu]
  exact r.set i u (by simpa [millC] using hi)
def Off (M Z : Nat) (p l : Value) : Prop := ∀ g, (p.ownBlock = some g ∨ l.ownBlock = some g) → g ≠ M ∧ g ≠ Z
theorem off_got {M Z b : Nat} {w : World} {s p l h : Value} {m : Mi} (G : MillGot b w s p l h m) (hM : M < b) (hZ : Z < b) : Off M Z p l := fun g hg => by
  have : b ≤ g := by
    rcases hg with hg | hg
    · exact (G.po.lt g hg).1
    · exact (G.lo.lt g hg).1
  omega
theorem grow_pieces {base : Nat} {w w' : World} {s p l h p' : Value} {m : Mi} {ps : List Pc} (G : MillGot base w s p l h m) (po : OwnE base 73 2 w' p' ps.length (flatP ps)) (hg : w.grownBy w' p.ownBlock) (hn : ∀ g, p'.ownBlock = some g → p.ownBlock = some g ∨ w.heap.size ≤ g) :
    MillGot base w' s p' l h { m with pieces := ps } :=
  ⟨Nat.le_trans G.hb hg.size, G.so.grown hg fun g h e => G.sp g h e.symm, po, G.lo.grown hg fun g h e => G.pl g e.symm h, G.ho.grown hg fun g h e => G.ph g e.symm h,
    fun k h1 h2 => (hn k h2).elim (fun e => G.sp k h1 e) (fun e => absurd (G.so.lt k h1).2 (by omega)), G.sl, G.sh,
    fun k h1 h2 => (hn k h1).elim (fun e => G.pl k e h2) (fun e => absurd (G.lo.lt k h2).2 (by omega)), fun k h1 h2 => (hn k h1).elim (fun e => G.ph k e h2) (fun e => absurd (G.ho.lt k h2).2 (by omega)), G.lh⟩
theorem grow_low {base : Nat} {w w' : World} {s p l h l' : Value} {m : Mi} {xs : List Int} (G : MillGot base w s p l h m) (lo : OwnE base 3 1 w' l' xs.length (flatI xs)) (hg : w.grownBy w' l.ownBlock) (hn : ∀ g, l'.ownBlock = some g → l.ownBlock = some g ∨ w.heap.size ≤ g) :
    MillGot base w' s p l' h { m with low := xs } :=
  ⟨Nat.le_trans G.hb hg.size, G.so.grown hg fun g h e => G.sl g h e.symm, G.po.grown hg fun g h e => G.pl g h e.symm, lo, G.ho.grown hg fun g h e => G.lh g e.symm h, G.sp,
    fun k h1 h2 => (hn k h2).elim (fun e => G.sl k h1 e) (fun e => absurd (G.so.lt k h1).2 (by omega)), G.sh,
    fun k h1 h2 => (hn k h2).elim (fun e => G.pl k h1 e) (fun e => absurd (G.po.lt k h1).2 (by omega)), G.ph, fun k h1 h2 => (hn k h1).elim (fun e => G.lh k e h2) (fun e => absurd (G.ho.lt k h2).2 (by omega))⟩
theorem grown_row {w w' : World} {p : Value} {b T : Nat} {vs : List Value} (r : RowL w b T vs) (hg : w.grownBy w' p.ownBlock) (hp : ∀ g, p.ownBlock = some g → g ≠ b) : RowL w' b T vs :=
  World.rowIs.of_block r (hg.block b r.lt fun e => hp b e.symm rfl)
def MillRound (R k base M : Nat) (w wr : World) (s p l h : Value) (x : Mi) (bx okv : Value) (W : World) : Prop :=
  ∃ (y : Mi) (ok : Bool) (G : Nat) (s7 p7 l7 h7 : Value), (bx = .pointer (some ⟨G, 0, none⟩) ∧ RowL W G 31 (millC s7 p7 l7 h7 y) ∧ MillGot base W s7 p7 l7 h7 y ∧ Off M w.heap.size p7 l7) ∧ okv = .bool ok ∧ (ok = true → Tight y) ∧ RowL W M 31 (millC s p l h x) ∧ MillGot base W s p l h x ∧ RowL W w.heap.size 31 [.slice none 0 0, .int .i64 0, .int .i64 0, .int .i64 0, .int .i64 0, .int .i64 0, .int .i64 0, .int .i64 0, .slice none 0 0, .slice none 0 0, .slice none 0 0, .int .i64 0] ∧ wr.heap.size ≤ W.heap.size ∧ Other R (R + 1) w W ∧ Rd R k W
theorem round_new {R k base b M : Nat} {w wr w7 : World} {s p l h s7 p7 l7 h7 : Value} {x y : Mi} {ok : Bool} (G7 : MillGot b w7 s7 p7 l7 h7 y) (hb : base ≤ b) (M7 : RowL w7 M 31 (millC s p l h x)) (X7 : MillGot base w7 s p l h x) (Z7 : RowL w7 w.heap.size 31 [.slice none 0 0, .int .i64 0, .int .i64 0, .int .i64 0, .int .i64 0, .int .i64 0, .int .i64 0, .int .i64 0, .slice none 0 0, .slice none 0 0, .slice none 0 0, .int .i64 0])
    (hz : wr.heap.size ≤ w7.heap.size) (hO : Other R (R + 1) w w7) (hR : Rd R k w7) (hF : ok = true → Tight y) (_hB : base ≤ w7.heap.size) (h1 : M < b) (h2 : w.heap.size < b) :
    MillRound R k base M w wr s p l h x (.pointer (some ⟨w7.heap.size, 0, none⟩)) (.bool ok) (w7.alloc (.cells #[s7, .int .i64 y.rule.lc, .int .i64 y.rule.hc, .int .i64 y.rule.lm, .int .i64 y.rule.hm, .int .i64 y.rule.ls, .int .i64 y.rule.hs, .int .i64 y.strand, p7, l7, h7, .int .i64 y.scrap] 31)) := by
  have hk : Below w7.heap.size w7 (w7.alloc (.cells #[s7, .int .i64 y.rule.lc, .int .i64 y.rule.hc, .int .i64 y.rule.lm, .int .i64 y.rule.hm, .int .i64 y.rule.ls, .int .i64 y.rule.hs, .int .i64 y.strand, p7, l7, h7, .int .i64 y.scrap] 31)) := (Below.refl _ _).alloc (Nat.le_refl _) _
  exact ⟨y, ok, _, _, _, _, _, ⟨rfl, RowL.new w7 31 (millC s7 p7 l7 h7 y), (G7.below hk).mono hb, off_got G7 h1 h2⟩, rfl, hF, M7.below hk M7.lt, X7.below hk, Z7.below hk Z7.lt, Nat.le_trans hz hk.size, hO.step hk hO.size, hR.keep hk hR.lt⟩
theorem round_old {R k base b M C : Nat} {w wr w7 : World} {s p l h s7 p7 l7 h7 : Value} {x y : Mi} {ok : Bool} {us : List Value} (r : RowL w7 C 31 us) (hl : us.length = 12) (G7 : MillGot b w7 s7 p7 l7 h7 y) (hb : base ≤ b) (M7 : RowL w7 M 31 (millC s p l h x)) (X7 : MillGot base w7 s p l h x) (Z7 : RowL w7 w.heap.size 31 [.slice none 0 0, .int .i64 0, .int .i64 0, .int .i64 0, .int .i64 0, .int .i64 0, .int .i64 0, .int .i64 0, .slice none 0 0, .slice none 0 0, .slice none 0 0, .int .i64 0])
    (hz : wr.heap.size ≤ w7.heap.size) (hO : Other R (R + 1) w w7) (hR : Rd R k w7) (hF : ok = true → Tight y) (_hC : base ≤ C) (hM : M < C) (hw : w.heap.size < C) (hRl : R < w.heap.size) (h1 : M < b) (h2 : w.heap.size < b) :
    MillRound R k base M w wr s p l h x (.pointer (some ⟨C, 0, none⟩)) (.bool ok) (((((((((((((w7.setCell ⟨C, 0, none⟩ (s7)).setCell ⟨C, 1, none⟩ (.int .i64 y.rule.lc)).setCell ⟨C, 2, none⟩ (.int .i64 y.rule.hc)).setCell ⟨C, 3, none⟩ (.int .i64 y.rule.lm)).setCell ⟨C, 4, none⟩ (.int .i64 y.rule.hm)).setCell ⟨C, 5, none⟩ (.int .i64 y.rule.ls)).setCell ⟨C, 6, none⟩ (.int .i64 y.rule.hs)).setCell ⟨C, 7, none⟩ (.int .i64 y.strand)).setCell ⟨C, 8, none⟩ (p7)).setCell ⟨C, 9, none⟩ (l7)).setCell ⟨C, 10, none⟩ (h7)).setCell ⟨C, 11, none⟩ (.int .i64 y.scrap))) := by
  have T := other12 C w7 s7 (.int .i64 y.rule.lc) (.int .i64 y.rule.hc) (.int .i64 y.rule.lm) (.int .i64 y.rule.hm) (.int .i64 y.rule.ls) (.int .i64 y.rule.hs) (.int .i64 y.strand) p7 l7 h7 (.int .i64 y.scrap)
  exact ⟨y, ok, _, _, _, _, _, ⟨rfl, row12 r hl _ _ _ _ _ _ _ _ _ _ _ _, (G7.past r T).mono hb, off_got G7 h1 h2⟩, rfl, hF, M7.other T (by omega), X7.past r T, Z7.other T (by omega), Nat.le_trans hz T.size, hO.step (T.below (B := w.heap.size) (by omega) hO.size) (Nat.le_refl _), hR.keep (T.below (B := w.heap.size) (by omega) hO.size) hRl⟩
set_option maxHeartbeats 16000000 in
theorem l20Mill_any (R k : Nat) (nn : Int) (w : World) (hrd : Rd R k w) (hk : k ≤ 1000) (hn1 : 1 ≤ nn) (hn2 : nn ≤ 100) :
    Calls Tryz.prog 57 #[.pointer (some ⟨R, 0, none⟩), .int .i64 nn] w (MillDrawn R (k + 260) w) := by
  have hlt := hrd.lt
  have HR_ := hide hrd
  clear hrd
  go_enter Tryz.func57, Tryz.ntmps57
  go_wp2_with fail
  refine calls_at fun wx hwx => ?_
  have Z_0 : RowL wx w.heap.size 31 [.slice none 0 0, .int .i64 0, .int .i64 0, .int .i64 0, .int .i64 0, .int .i64 0, .int .i64 0, .int .i64 0, .slice none 0 0, .slice none 0 0, .slice none 0 0, .int .i64 0] := by rw [hwx]; exact RowL.new _ _ _
  have hb : Below w.heap.size w wx := by rw [hwx]; exact (Below.refl _ _).alloc (Nat.le_refl _) _
  clear hwx
  have HO0 := hide (Other.of_below (lo := R) (hi := R + 1) hb)
  have HR0 := hide (HR_.out.keep hb hlt)
  have hz0 := Z_0.lt
  clear hb
  refine (l20Stuffs_any R _ wx HR0.out (by omega)).mono ?_
  rintro e w1 ⟨sv, xs, rfl, hxl, hst, own, ho, hr⟩
  obtain ⟨aos, caps, rfl, -, -⟩ := own_slice own
  have SO_1 := (OwnE.own own).mono (show w.heap.size ≤ wx.heap.size by omega)
  have Z_1 := Z_0.other ho (by omega)
  have HO1 := hide (HO0.out.trans ho)
  have HR1 := hide hr
  have hz1 := ho.size
  clear ho hr own
  go_wp2_with fail
  refine (pick_in R _ 5 w1 HR1.out (by omega) (by omega) (by omega)).mono ?_
  rintro e w2 ⟨a, rfl, a0, a5, ho, hr⟩
  obtain ⟨c, rfl⟩ : ∃ c : Nat, a = c := ⟨a.toNat, by omega⟩
  have SO_2 := SO_1.other ho (fun g hg => .inr (by have := (SO_1.lt g hg).1; omega))
  have Z_2 := Z_1.other ho (by omega)
  have HO2 := hide (HO1.out.trans ho)
  have HR2 := hide hr
  have hz2 := ho.size
  clear ho hr SO_1
  go_wp2_with fail
  rw [show (1 : Int) + (c : Int) = ((1 + c : Nat) : Int) by omega]
  refine (pileEmpty_any (1 + c) w2 (by omega) (by omega)).mono ?_
  rintro e w3 ⟨l, h, rfl, po, hb⟩
  obtain ⟨aol, capl, hel, -, -⟩ := po.lo.form
  obtain ⟨aoh, caph, heh, -, -⟩ := po.ho.form
  subst hel heh
  have G_3 : MillGot w.heap.size w3 _ _ _ _ (⟨xs, gr0, 0, [], List.replicate (1 + c) 0, List.replicate (1 + c - 1) 0, 0⟩ : Mi) :=
    start_got (by have := hb.size; omega) (SO_2.below hb (Nat.le_refl _)) (po.mono (by omega)) (SO_2.apart po.lo (Nat.le_refl _)) (SO_2.apart po.ho (Nat.le_refl _)) rfl
  have Z_3 := Z_2.below hb Z_2.lt
  have HO3 := hide (HO2.out.step hb (by omega))
  have HR3 := hide (HR2.out.keep hb HR2.out.lt)
  have hz3 := hb.size
  have hF : Tight (⟨xs, gr0, 0, [], List.replicate (1 + c) 0, List.replicate (1 + c - 1) 0, 0⟩ : Mi) := ⟨by simp, by simp; omega⟩
  have hlh : (List.replicate (1 + c) (0 : Int)).length = 1 + c ∧ (List.replicate (1 + c - 1) (0 : Int)).length = 1 + c - 1 := ⟨List.length_replicate .., List.length_replicate ..⟩
  have hloI : ∀ g, ((Value.slice none 0 0).ownBlock = some g ∨ (Value.slice aol (List.replicate (1 + c) (0 : Int)).length capl).ownBlock = some g) → w.heap.size < g ∧ g < w3.heap.size := fun g hg => by
    rcases hg with hg | hg
    · cases hg
    · have := po.lo.lt g hg; omega
  clear hb po SO_2
  generalize hlo : List.replicate (1 + c) (0 : Int) = lo at G_3 hF hloI ⊢
  generalize hhi : List.replicate (1 + c - 1) (0 : Int) = hi at G_3 hF ⊢
  unfold pileV
  go_wp2_with fail
  obtain ⟨wm, hwm⟩ : ∃ q : World, q = w3.alloc (.cells #[.slice aos xs.length caps, .int .i64 0, .int .i64 0, .int .i64 0, .int .i64 0, .int .i64 0, .int .i64 0, .int .i64 0, .slice none 0 0, .slice aol lo.length capl, .slice aoh hi.length caph, .int .i64 0] 31) := ⟨_, rfl⟩
  rw [← hwm]
  have M_4 : RowL wm w3.heap.size 31 (millC (.slice aos xs.length caps) (.slice none 0 0) (.slice aol lo.length capl) (.slice aoh hi.length caph) ⟨xs, gr0, 0, [], lo, hi, 0⟩) := by rw [hwm]; exact RowL.new _ _ (millC (.slice aos xs.length caps) (.slice none 0 0) (.slice aol lo.length capl) (.slice aoh hi.length caph) ⟨xs, gr0, 0, [], lo, hi, 0⟩)
  have hb : Below w3.heap.size w3 wm := by rw [hwm]; exact (Below.refl _ _).alloc (Nat.le_refl _) _
  have G_4 := hide (G_3.below hb)
  have Z_4 := Z_3.below hb Z_3.lt
  have HO4 := hide (HO3.out.step hb (by omega))
  have HR4 := hide (HR3.out.keep hb HR3.out.lt)
  have hz4 := M_4.lt
  have hofI : Off w3.heap.size w.heap.size (.slice none 0 0) (.slice aol lo.length capl) := fun g hg => by
    have := hloI g hg
    omega
  clear hwm hb G_3 hloI
  have hI : (World.drew wm).cell? ⟨w3.heap.size, 0, none⟩ = some (.slice aos xs.length caps) := M_4.c 0 rfl
  have hbd : Below wm.heap.size wm (World.drew wm) := (Below.refl _ _).drew
  have G_d := hide (G_4.out.below hbd)
  have HRd := hide (show Rd R _ (World.drew wm) from HR4.out.keep hbd HR4.out.lt)
  have HOd := hide (show Other R (R + 1) w (World.drew wm) from HO4.out.step hbd (by omega))
  have M_d := M_4.drew
  have Z_d := Z_4.drew
  have hzdr : (World.drew wm).heap.size = wm.heap.size := rfl
  clear hbd
  go_cut [] from 16 to 24 (fun W => ∃ g, RowL W w3.heap.size 31 (millC (.slice aos xs.length caps) (.slice none 0 0) (.slice aol lo.length capl) (.slice aoh hi.length caph) ⟨xs, g, 0, [], lo, hi, 0⟩) ∧ MillGot w.heap.size W (.slice aos xs.length caps) (.slice none 0 0) (.slice aol lo.length capl) (.slice aoh hi.length caph) ⟨xs, g, 0, [], lo, hi, 0⟩ ∧ RowL W w.heap.size 31 [.slice none 0 0, .int .i64 0, .int .i64 0, .int .i64 0, .int .i64 0, .int .i64 0, .int .i64 0, .int .i64 0, .slice none 0 0, .slice none 0 0, .slice none 0 0, .int .i64 0] ∧ wm.heap.size ≤ W.heap.size ∧ Other R (R + 1) w W ∧ Rd R (k + 46) W)
  case first =>
    go_region_held (fun W => W.cell? ⟨w3.heap.size, 0, none⟩ = some (.slice aos xs.length caps)) (first | (with_reducible exact hI) | (with_reducible exact hS1) | (with_reducible exact hS2) | (with_reducible exact (((((((M_f.set 1 _ (by simp [millC])).set 2 _ (by simp [millC])).set 3 _ (by simp [millC])).set 4 _ (by simp [millC])).set 5 _ (by simp [millC])).set 6 _ (by simp [millC])).c 0 rfl))) (first
      | (go_at_call 128; (with_reducible refine (l20Around_any R _ _ mv xs mix _ HRe.out (by omega) (G_e.out.all.store) ((ownE_ints (OwnE.own own) rfl (by omega)).mono (Nat.zero_le _) (Nat.le_refl _) (Nat.le_refl _)) (by omega) hmx).mono ?_); rintro e wf ⟨g, rfl, ho, hr⟩; have hS2 : wf.cell? ⟨w3.heap.size, 0, none⟩ = some (.slice aos xs.length caps) := (M_e.other ho (by omega)).c 0 rfl; have M_f := M_e.other ho (by omega); have Z_f := Z_e.other ho (by omega); have G_f := hide (G_e.out.other ho (by omega)); have HOf := hide (HOe.out.trans ho); have HRf := hide hr; have hzf := ho.size; have cf1 : wf.cell? ⟨w3.heap.size, 1, none⟩ = some (.int .i64 0) := M_f.c 1 rfl; have ff1 : wf.frozen? ⟨w3.heap.size, 1, none⟩ = false := M_f.frozen 1; have cf2 : wf.cell? ⟨w3.heap.size, 2, none⟩ = some (.int .i64 0) := M_f.c 2 rfl; have ff2 : wf.frozen? ⟨w3.heap.size, 2, none⟩ = false := M_f.frozen 2; have cf3 : wf.cell? ⟨w3.heap.size, 3, none⟩ = some (.int .i64 0) := M_f.c 3 rfl; have ff3 : wf.frozen? ⟨w3.heap.size, 3, none⟩ = false := M_f.frozen 3; have cf4 : wf.cell? ⟨w3.heap.size, 4, none⟩ = some (.int .i64 0) := M_f.c 4 rfl; have ff4 : wf.frozen? ⟨w3.heap.size, 4, none⟩ = false := M_f.frozen 4; have cf5 : wf.cell? ⟨w3.heap.size, 5, none⟩ = some (.int .i64 0) := M_f.c 5 rfl; have ff5 : wf.frozen? ⟨w3.heap.size, 5, none⟩ = false := M_f.frozen 5; have cf6 : wf.cell? ⟨w3.heap.size, 6, none⟩ = some (.int .i64 0) := M_f.c 6 rfl; have ff6 : wf.frozen? ⟨w3.heap.size, 6, none⟩ = false := M_f.frozen 6; clear ho hr; unfold grV)
      | (go_at_call 129; (with_reducible refine (l20Mix_any R _ _ _ _ xs _ HRd.out (by omega) (G_d.out.at.store) (by omega) hst).mono ?_); rintro e we ⟨mv, mix, rfl, hml, hmx, own, ho, hr⟩; have hS1 : we.cell? ⟨w3.heap.size, 0, none⟩ = some (.slice aos xs.length caps) := (M_d.other ho (by omega)).c 0 rfl; have M_e := M_d.other ho (by omega); have Z_e := Z_d.other ho (by omega); have G_e := hide (G_d.out.other ho (by omega)); have HOe := hide (HOd.out.trans ho); have HRe := hide hr; have hze := ho.size; clear ho hr))
    obtain ⟨wg, hwg⟩ : ∃ q : World, q = ((((((wf.setCell ⟨w3.heap.size, 1, none⟩ (.int .i64 g.lc)).setCell ⟨w3.heap.size, 2, none⟩ (.int .i64 g.hc)).setCell ⟨w3.heap.size, 3, none⟩ (.int .i64 g.lm)).setCell ⟨w3.heap.size, 4, none⟩ (.int .i64 g.hm)).setCell ⟨w3.heap.size, 5, none⟩ (.int .i64 g.ls)).setCell ⟨w3.heap.size, 6, none⟩ (.int .i64 g.hs)) := ⟨_, rfl⟩
    go_wp2_with fail
    rw [← hwg]
    go_meet
    obtain ⟨r, G, T⟩ := rule_put M_f G_f.out g wg hwg
    have hzg := T.size
    exact ⟨g, r, G, Z_f.other T (by omega), by omega, HOf.out.step (T.below (B := w.heap.size) (by omega) (by omega)) (Nat.le_refl _), (HRf.out.keep (T.below (B := w.heap.size) (by omega) (by omega)) hlt).mono (by omega)⟩
  obtain ⟨g, M_5, G, Z_5, hz5, hor, hr⟩ := hcut
  have G_5 := hide G
  have HO5 := hide hor
  have HR5 := hide hr
  obtain ⟨w5, rfl⟩ : ∃ q : World, q = wc := ⟨_, rfl⟩
  clear G hor hr hI HRd HOd G_d M_d Z_d
  have cM1 : w5.cell? ⟨w3.heap.size, 1, none⟩ = some (.int .i64 g.lc) := M_5.c 1 rfl
  have cM2 : w5.cell? ⟨w3.heap.size, 2, none⟩ = some (.int .i64 g.hc) := M_5.c 2 rfl
  have cM3 : w5.cell? ⟨w3.heap.size, 3, none⟩ = some (.int .i64 g.lm) := M_5.c 3 rfl
  have cM4 : w5.cell? ⟨w3.heap.size, 4, none⟩ = some (.int .i64 g.hm) := M_5.c 4 rfl
  have cM5 : w5.cell? ⟨w3.heap.size, 5, none⟩ = some (.int .i64 g.ls) := M_5.c 5 rfl
  have cM6 : w5.cell? ⟨w3.heap.size, 6, none⟩ = some (.int .i64 g.hs) := M_5.c 6 rfl
  have fcM1 := M_5.frozen 1
  have fcM2 := M_5.frozen 2
  have fcM3 := M_5.frozen 3
  have fcM4 := M_5.frozen 4
  have fcM5 := M_5.frozen 5
  have fcM6 := M_5.frozen 6
  have k1 := grv_spec g w5
  unfold grV at k1
  go_wp2_with fail
  refine k1.mono ?_
  rintro e w6 ⟨rfl, hb⟩
  have M_6 := M_5.below hb M_5.lt
  have Z_6 := Z_5.below hb Z_5.lt
  have G_6 := hide (G_5.out.below hb)
  have HO6 := hide (HO5.out.step hb (by omega))
  have HR6 := hide (HR5.out.keep hb HR5.out.lt)
  have hz6 := hb.size
  clear hb k1
  clear cM1 fcM1 cM2 fcM2 cM3 fcM3 cM4 fcM4 cM5 fcM5 cM6 fcM6
  go_upto_if 28 with fail
  go_cut [] from 25 to 30 (fun W => ∃ g, RowL W w3.heap.size 31 (millC (.slice aos xs.length caps) (.slice none 0 0) (.slice aol lo.length capl) (.slice aoh hi.length caph) ⟨xs, g, 0, [], lo, hi, 0⟩) ∧ MillGot w.heap.size W (.slice aos xs.length caps) (.slice none 0 0) (.slice aol lo.length capl) (.slice aoh hi.length caph) ⟨xs, g, 0, [], lo, hi, 0⟩ ∧ RowL W w.heap.size 31 [.slice none 0 0, .int .i64 0, .int .i64 0, .int .i64 0, .int .i64 0, .int .i64 0, .int .i64 0, .int .i64 0, .slice none 0 0, .slice none 0 0, .slice none 0 0, .int .i64 0] ∧ wm.heap.size ≤ W.heap.size ∧ Other R (R + 1) w W ∧ Rd R (k + 46) W)
  case first =>
    cases hgv : grB g with
    | true =>
      go_wp2_with fail
      go_meet
      exact ⟨g, M_6, G_6.out, Z_6, by omega, HO6.out, HR6.out⟩
    | false =>
    have cN1 : w6.cell? ⟨w3.heap.size, 1, none⟩ = some (.int .i64 g.lc) := M_6.c 1 rfl
    have cN2 : w6.cell? ⟨w3.heap.size, 2, none⟩ = some (.int .i64 g.hc) := M_6.c 2 rfl
    have cN3 : w6.cell? ⟨w3.heap.size, 3, none⟩ = some (.int .i64 g.lm) := M_6.c 3 rfl
    have cN4 : w6.cell? ⟨w3.heap.size, 4, none⟩ = some (.int .i64 g.hm) := M_6.c 4 rfl
    have cN5 : w6.cell? ⟨w3.heap.size, 5, none⟩ = some (.int .i64 g.ls) := M_6.c 5 rfl
    have cN6 : w6.cell? ⟨w3.heap.size, 6, none⟩ = some (.int .i64 g.hs) := M_6.c 6 rfl
    have fcN1 := M_6.frozen 1
    have fcN2 := M_6.frozen 2
    have fcN3 := M_6.frozen 3
    have fcN4 := M_6.frozen 4
    have fcN5 := M_6.frozen 5
    have fcN6 := M_6.frozen 6
    obtain ⟨wg, hwg⟩ : ∃ q : World, q = ((((((w6.setCell ⟨w3.heap.size, 1, none⟩ (.int .i64 0)).setCell ⟨w3.heap.size, 2, none⟩ (.int .i64 999)).setCell ⟨w3.heap.size, 3, none⟩ (.int .i64 0)).setCell ⟨w3.heap.size, 4, none⟩ (.int .i64 999)).setCell ⟨w3.heap.size, 5, none⟩ (.int .i64 0)).setCell ⟨w3.heap.size, 6, none⟩ (.int .i64 999)) := ⟨_, rfl⟩
    go_wp2_with fail
    rw [← hwg]
    go_meet
    obtain ⟨r, G, T⟩ := rule_put M_6 G_6.out ⟨0, 999, 0, 999, 0, 999⟩ wg hwg
    have hzg := T.size
    exact ⟨_, r, G, Z_6.other T (by omega), by omega, HO6.out.step (T.below (B := w.heap.size) (by omega) (by omega)) (Nat.le_refl _), HR6.out.keep (T.below (B := w.heap.size) (by omega) (by omega)) hlt⟩
  obtain ⟨g2, M_7, G, Z_7, hz7, hor, hr⟩ := hcut
  have G_7 := hide G
  have HO7 := hide hor
  have HR7 := hide hr
  obtain ⟨w7, rfl⟩ : ∃ q : World, q = wc := ⟨_, rfl⟩
  clear G hor hr
  go_wp2_with fail
  refine (pick_in R _ 2 w7 HR7.out (by omega) (by omega) (by omega)).mono ?_
  rintro e w8 ⟨a, rfl, a0, a1, ho, hr⟩
  have M_8 := M_7.other ho (by omega)
  have Z_8 := Z_7.other ho (by omega)
  have G_8 := hide (G_7.out.other ho (by omega))
  have HO8 := hide (HO7.out.trans ho)
  have HR8 := hide hr
  have hz8 := ho.size
  clear ho hr
  go_upto_if 33 with fail
  go_cut [] from 31 to 38 (fun W => ∃ g, RowL W w3.heap.size 31 (millC (.slice aos xs.length caps) (.slice none 0 0) (.slice aol lo.length capl) (.slice aoh hi.length caph) ⟨xs, g, 0, [], lo, hi, 0⟩) ∧ MillGot w.heap.size W (.slice aos xs.length caps) (.slice none 0 0) (.slice aol lo.length capl) (.slice aoh hi.length caph) ⟨xs, g, 0, [], lo, hi, 0⟩ ∧ RowL W w.heap.size 31 [.slice none 0 0, .int .i64 0, .int .i64 0, .int .i64 0, .int .i64 0, .int .i64 0, .int .i64 0, .int .i64 0, .slice none 0 0, .slice none 0 0, .slice none 0 0, .int .i64 0] ∧ wm.heap.size ≤ W.heap.size ∧ Other R (R + 1) w W ∧ Rd R (k + 48) W)
  case first =>
    obtain rfl | rfl : a = 0 ∨ a = 1 := by omega
    rotate_left
    · go_wp2_with fail
      go_meet
      exact ⟨g2, M_8, G_8.out, Z_8, by omega, HO8.out, HR8.out.mono (by omega)⟩
    go_wp2_with fail
    refine (pick_in R _ 30 w8 HR8.out (by omega) (by omega) (by omega)).mono ?_
    rintro e w9 ⟨a, rfl, b0, b1, ho, hr⟩
    have M_9 := M_8.other ho (by omega)
    have Z_9 := Z_8.other ho (by omega)
    have G_9 := hide (G_8.out.other ho (by omega))
    have HO9 := hide (HO8.out.trans ho)
    have HR9 := hide hr
    have hz9 := ho.size
    clear ho hr
    have cN1 : w9.cell? ⟨w3.heap.size, 1, none⟩ = some (.int .i64 g2.lc) := M_9.c 1 rfl
    have cN2 : w9.cell? ⟨w3.heap.size, 2, none⟩ = some (.int .i64 g2.hc) := M_9.c 2 rfl
    have cN3 : w9.cell? ⟨w3.heap.size, 3, none⟩ = some (.int .i64 g2.lm) := M_9.c 3 rfl
    have cN4 : w9.cell? ⟨w3.heap.size, 4, none⟩ = some (.int .i64 g2.hm) := M_9.c 4 rfl
    have cN5 : w9.cell? ⟨w3.heap.size, 5, none⟩ = some (.int .i64 g2.ls) := M_9.c 5 rfl
    have cN6 : w9.cell? ⟨w3.heap.size, 6, none⟩ = some (.int .i64 g2.hs) := M_9.c 6 rfl
    have fcN1 := M_9.frozen 1
    have fcN2 := M_9.frozen 2
    have fcN3 := M_9.frozen 3
    have fcN4 := M_9.frozen 4
    have fcN5 := M_9.frozen 5
    have fcN6 := M_9.frozen 6
    obtain ⟨wg, hwg⟩ : ∃ q : World, q = ((((((w9.setCell ⟨w3.heap.size, 1, none⟩ (.int .i64 0)).setCell ⟨w3.heap.size, 2, none⟩ (.int .i64 (30 + a))).setCell ⟨w3.heap.size, 3, none⟩ (.int .i64 0)).setCell ⟨w3.heap.size, 4, none⟩ (.int .i64 60)).setCell ⟨w3.heap.size, 5, none⟩ (.int .i64 0)).setCell ⟨w3.heap.size, 6, none⟩ (.int .i64 999)) := ⟨_, rfl⟩
    go_wp2_with fail
    rw [← hwg]
    go_meet
    obtain ⟨r, G, T⟩ := rule_put M_9 G_9.out ⟨0, 30 + a, 0, 60, 0, 999⟩ wg hwg
    have hzg := T.size
    exact ⟨_, r, G, Z_9.other T (by omega), by omega, HO9.out.step (T.below (B := w.heap.size) (by omega) (by omega)) (Nat.le_refl _), HR9.out.keep (T.below (B := w.heap.size) (by omega) (by omega)) hlt⟩
  obtain ⟨g3, M_10, G, Z_10, hz10, hor, hr⟩ := hcut
  have G_10 := hide G
  have HO10 := hide hor
  have HR10 := hide hr
  obtain ⟨w10, rfl⟩ : ∃ q : World, q = wc := ⟨_, rfl⟩
  clear G hor hr
  go_wp2_with fail
  refine (pick_in R _ 24 w10 HR10.out (by omega) (by omega) (by omega)).mono ?_
  rintro e w11 ⟨a, rfl, a0, a1, ho, hr⟩
  obtain ⟨c0, rfl⟩ : ∃ c : Nat, a = c := ⟨a.toNat, by omega⟩
  have M_11 := M_10.other ho (by omega)
  have Z_11 := Z_10.other ho (by omega)
  have G_11 := hide (G_10.out.other ho (by omega))
  have HO11 := hide (HO10.out.trans ho)
  have HR11 := hide hr
  have hz11 := ho.size
  clear ho hr
  have HOF := hide hofI
  have HF0 := hide (show Tight (⟨xs, g3, 0, [], lo, hi, 0⟩ : Mi) from ⟨hF.p, hF.l⟩)
  go_wp2_with fail
  go_loopw [6] (fun i wr => ∃ (c : Nat) (s p l h : Value) (m : Mi), i = .int .i64 c ∧ c ≤ 23 ∧ RowL wr w3.heap.size 31 (millC s p l h m) ∧ MillGot w.heap.size wr s p l h m ∧ Off w3.heap.size w.heap.size p l ∧ Tight m ∧ RowL wr w.heap.size 31 [.slice none 0 0, .int .i64 0, .int .i64 0, .int .i64 0, .int .i64 0, .int .i64 0, .int .i64 0, .int .i64 0, .slice none 0 0, .slice none 0 0, .slice none 0 0, .int .i64 0] ∧ Other R (R + 1) w wr ∧ Rd R (k + 50 + 8 * (23 - c)) wr) (fun i _ => (intOf i).toNat)
  case atStart => exact ⟨c0, _, _, _, _, _, rfl, by omega, M_11, G_11.out, HOF.out, HF0.out, Z_11, HO11.out, HR11.out.mono (by omega)⟩
  case round =>
    obtain ⟨c, s3, p3, l3, h3, x, rfl, hcl, M_r, G, hof3, hfw, Z_r, hor, hr⟩ := hrel
    have HO := hide hor
    have HR := hide hr
    have G_r := hide G
    have HF := hide hfw
    have HOF3 := hide hof3
    clear hof3
    obtain ⟨aS3, cs3, rfl, -, -⟩ := G.so.form
    obtain ⟨ap3, cp3, rfl, -, -⟩ := G.po.form
    obtain ⟨al3, cl3, rfl, -, -⟩ := G.lo.form
    obtain ⟨ah3, ch3, rfl, -, -⟩ := G.ho.form
    clear G hor hr hfw
    have hzr := M_r.lt
    by_cases hc : 0 < c
    · obtain ⟨d, rfl⟩ : ∃ d, c = d + 1 := ⟨c - 1, by omega⟩
      have hcI : (0 : Int) < ((d + 1 : Nat) : Int) := by omega
      have cC0 : wr.cell? ⟨w3.heap.size, 0, none⟩ = some (.slice aS3 x.store.length cs3) := M_r.c 0 rfl
      have cC1 : wr.cell? ⟨w3.heap.size, 1, none⟩ = some (.int .i64 x.rule.lc) := M_r.c 1 rfl
      have cC2 : wr.cell? ⟨w3.heap.size, 2, none⟩ = some (.int .i64 x.rule.hc) := M_r.c 2 rfl
      have cC3 : wr.cell? ⟨w3.heap.size, 3, none⟩ = some (.int .i64 x.rule.lm) := M_r.c 3 rfl
      have cC4 : wr.cell? ⟨w3.heap.size, 4, none⟩ = some (.int .i64 x.rule.hm) := M_r.c 4 rfl
      have cC5 : wr.cell? ⟨w3.heap.size, 5, none⟩ = some (.int .i64 x.rule.ls) := M_r.c 5 rfl
      have cC6 : wr.cell? ⟨w3.heap.size, 6, none⟩ = some (.int .i64 x.rule.hs) := M_r.c 6 rfl
      have cC7 : wr.cell? ⟨w3.heap.size, 7, none⟩ = some (.int .i64 x.strand) := M_r.c 7 rfl
      have cC8 : wr.cell? ⟨w3.heap.size, 8, none⟩ = some (.slice ap3 x.pieces.length cp3) := M_r.c 8 rfl
      have cC9 : wr.cell? ⟨w3.heap.size, 9, none⟩ = some (.slice al3 x.low.length cl3) := M_r.c 9 rfl
      have cC10 : wr.cell? ⟨w3.heap.size, 10, none⟩ = some (.slice ah3 x.high.length ch3) := M_r.c 10 rfl
      have cC11 : wr.cell? ⟨w3.heap.size, 11, none⟩ = some (.int .i64 x.scrap) := M_r.c 11 rfl
      have hI : Below wr.heap.size wr wr.drew := (Below.refl _ _).drew
      have hI2 : Below wr.heap.size wr (wr.alloc (.cells #[.slice none 0 0, .int .i64 0, .int .i64 0, .int .i64 0, .int .i64 0, .int .i64 0, .int .i64 0, .int .i64 0, .slice none 0 0, .slice none 0 0, .slice none 0 0, .int .i64 0] 31)).drew := ((Below.refl _ _).alloc (Nat.le_refl _) _).drew
      have hRl := HR.out.lt
      have HRa := hide (show Rd R _ wr.drew from HR.out.keep hI hRl)
      have HRb := hide (show Rd R _ (wr.alloc (.cells #[.slice none 0 0, .int .i64 0, .int .i64 0, .int .i64 0, .int .i64 0, .int .i64 0, .int .i64 0, .int .i64 0, .slice none 0 0, .slice none 0 0, .slice none 0 0, .int .i64 0] 31)).drew from HR.out.keep hI2 hRl)
      have HG := hide (fun (W : World) (q : Below wr.heap.size wr W) => (G_r.out.below q).all)
      go_wp2_with fail
      go_cut [7, 8] from 46 to 52 (fun bx okv W => MillRound R (k + 50 + 8 * (23 - d)) w.heap.size w3.heap.size w wr (.slice aS3 x.store.length cs3) (.slice ap3 x.pieces.length cp3) (.slice al3 x.low.length cl3) (.slice ah3 x.high.length ch3) x bx okv W)
      case first =>
        go_region_with (first
          | (go_at_call 45; (first | (have hdo := do_spec (.slice aS3 x.store.length cs3) (.slice ap3 x.pieces.length cp3) (.slice al3 x.low.length cl3) (.slice ah3 x.high.length ch3) x dj _ G_6.out.all hd1 hd2; rw [hyo.out] at hdo; unfold millV at hdo; (with_reducible refine hdo.mono ?_)) | (have hdo := do_spec (.slice aS3 x.store.length cs3) (.slice ap3 x.pieces.length cp3) (.slice al3 x.low.length cl3) (.slice ah3 x.high.length ch3) x dj _ (G_6.out.below ((Below.refl _ _).alloc (Nat.le_refl _) (.cells #[.slice none 0 0, .int .i64 0, .int .i64 0, .int .i64 0, .int .i64 0, .int .i64 0, .int .i64 0, .int .i64 0, .slice none 0 0, .slice none 0 0, .slice none 0 0, .int .i64 0] 31))).all hd1 hd2; rw [hyo.out] at hdo; unfold millV at hdo; (with_reducible refine hdo.mono ?_))); clear hdo; rintro e w7 ⟨s7, p7, l7, h7, he7, G7, hb7⟩; have he7 : e = .returned (.tuple #[millV s7 p7 l7 h7 y, .bool ok]) := he7; have G7 : MillGot _ w7 s7 p7 l7 h7 y := G7; subst he7; have hS7 : Below w6.heap.size w6 w7 := (by first | exact hb7 | exact ((Below.refl _ _).alloc (Nat.le_refl _) _).trans (hb7.mono (by simp))); have hz7 := hS7.size; have M_7 := M_6.below hS7 M_6.lt; have Z_7 := Z_6.below hS7 Z_6.lt; have X_7 := hide (G_6.out.below hS7); have HO7 := hide (HQ6.out.step hS7 HQ6.out.size); have HR7 := hide (HR6.out.keep hS7 HR6.out.lt); (try have C_7 := C_6.below hS7 C_6.lt); (try have D_7 : RowL w7 w6.heap.size 31 [.slice none 0 0, .int .i64 0, .int .i64 0, .int .i64 0, .int .i64 0, .int .i64 0, .int .i64 0, .int .i64 0, .slice none 0 0, .slice none 0 0, .slice none 0 0, .int .i64 0] := (RowL.new w6 31 [.slice none 0 0, .int .i64 0, .int .i64 0, .int .i64 0, .int .i64 0, .int .i64 0, .int .i64 0, .int .i64 0, .slice none 0 0, .slice none 0 0, .slice none 0 0, .int .i64 0]).below hb7 (by simp)); (try have hC0 : w7.cell? ⟨wr.heap.size, 0, none⟩ = some (.slice none 0 0) := C_7.c 0 rfl); (try have gC0 : w7.frozen? ⟨wr.heap.size, 0, none⟩ = false := C_7.frozen 0); (try have hC1 : w7.cell? ⟨wr.heap.size, 1, none⟩ = some (.int .i64 0) := C_7.c 1 rfl); (try have gC1 : w7.frozen? ⟨wr.heap.size, 1, none⟩ = false := C_7.frozen 1); (try have hC2 : w7.cell? ⟨wr.heap.size, 2, none⟩ = some (.int .i64 0) := C_7.c 2 rfl); (try have gC2 : w7.frozen? ⟨wr.heap.size, 2, none⟩ = false := C_7.frozen 2); (try have hC3 : w7.cell? ⟨wr.heap.size, 3, none⟩ = some (.int .i64 0) := C_7.c 3 rfl); (try have gC3 : w7.frozen? ⟨wr.heap.size, 3, none⟩ = false := C_7.frozen 3); (try have hC4 : w7.cell? ⟨wr.heap.size, 4, none⟩ = some (.int .i64 0) := C_7.c 4 rfl); (try have gC4 : w7.frozen? ⟨wr.heap.size, 4, none⟩ = false := C_7.frozen 4); (try have hC5 : w7.cell? ⟨wr.heap.size, 5, none⟩ = some (.int .i64 0) := C_7.c 5 rfl); (try have gC5 : w7.frozen? ⟨wr.heap.size, 5, none⟩ = false := C_7.frozen 5); (try have hC6 : w7.cell? ⟨wr.heap.size, 6, none⟩ = some (.int .i64 0) := C_7.c 6 rfl); (try have gC6 : w7.frozen? ⟨wr.heap.size, 6, none⟩ = false := C_7.frozen 6); (try have hC7 : w7.cell? ⟨wr.heap.size, 7, none⟩ = some (.int .i64 0) := C_7.c 7 rfl); (try have gC7 : w7.frozen? ⟨wr.heap.size, 7, none⟩ = false := C_7.frozen 7); (try have hC8 : w7.cell? ⟨wr.heap.size, 8, none⟩ = some (.slice none 0 0) := C_7.c 8 rfl); (try have gC8 : w7.frozen? ⟨wr.heap.size, 8, none⟩ = false := C_7.frozen 8); (try have hC9 : w7.cell? ⟨wr.heap.size, 9, none⟩ = some (.slice none 0 0) := C_7.c 9 rfl); (try have gC9 : w7.frozen? ⟨wr.heap.size, 9, none⟩ = false := C_7.frozen 9); (try have hC10 : w7.cell? ⟨wr.heap.size, 10, none⟩ = some (.slice none 0 0) := C_7.c 10 rfl); (try have gC10 : w7.frozen? ⟨wr.heap.size, 10, none⟩ = false := C_7.frozen 10); (try have hC11 : w7.cell? ⟨wr.heap.size, 11, none⟩ = some (.int .i64 0) := C_7.c 11 rfl); (try have gC11 : w7.frozen? ⟨wr.heap.size, 11, none⟩ = false := C_7.frozen 11); (try have hE0 : w7.cell? ⟨w6.heap.size, 0, none⟩ = some (.slice none 0 0) := D_7.c 0 rfl); (try have gE0 : w7.frozen? ⟨w6.heap.size, 0, none⟩ = false := D_7.frozen 0); (try have hE1 : w7.cell? ⟨w6.heap.size, 1, none⟩ = some (.int .i64 0) := D_7.c 1 rfl); (try have gE1 : w7.frozen? ⟨w6.heap.size, 1, none⟩ = false := D_7.frozen 1); (try have hE2 : w7.cell? ⟨w6.heap.size, 2, none⟩ = some (.int .i64 0) := D_7.c 2 rfl); (try have gE2 : w7.frozen? ⟨w6.heap.size, 2, none⟩ = false := D_7.frozen 2); (try have hE3 : w7.cell? ⟨w6.heap.size, 3, none⟩ = some (.int .i64 0) := D_7.c 3 rfl); (try have gE3 : w7.frozen? ⟨w6.heap.size, 3, none⟩ = false := D_7.frozen 3); (try have hE4 : w7.cell? ⟨w6.heap.size, 4, none⟩ = some (.int .i64 0) := D_7.c 4 rfl); (try have gE4 : w7.frozen? ⟨w6.heap.size, 4, none⟩ = false := D_7.frozen 4); (try have hE5 : w7.cell? ⟨w6.heap.size, 5, none⟩ = some (.int .i64 0) := D_7.c 5 rfl); (try have gE5 : w7.frozen? ⟨w6.heap.size, 5, none⟩ = false := D_7.frozen 5); (try have hE6 : w7.cell? ⟨w6.heap.size, 6, none⟩ = some (.int .i64 0) := D_7.c 6 rfl); (try have gE6 : w7.frozen? ⟨w6.heap.size, 6, none⟩ = false := D_7.frozen 6); (try have hE7 : w7.cell? ⟨w6.heap.size, 7, none⟩ = some (.int .i64 0) := D_7.c 7 rfl); (try have gE7 : w7.frozen? ⟨w6.heap.size, 7, none⟩ = false := D_7.frozen 7); (try have hE8 : w7.cell? ⟨w6.heap.size, 8, none⟩ = some (.slice none 0 0) := D_7.c 8 rfl); (try have gE8 : w7.frozen? ⟨w6.heap.size, 8, none⟩ = false := D_7.frozen 8); (try have hE9 : w7.cell? ⟨w6.heap.size, 9, none⟩ = some (.slice none 0 0) := D_7.c 9 rfl); (try have gE9 : w7.frozen? ⟨w6.heap.size, 9, none⟩ = false := D_7.frozen 9); (try have hE10 : w7.cell? ⟨w6.heap.size, 10, none⟩ = some (.slice none 0 0) := D_7.c 10 rfl); (try have gE10 : w7.frozen? ⟨w6.heap.size, 10, none⟩ = false := D_7.frozen 10); (try have hE11 : w7.cell? ⟨w6.heap.size, 11, none⟩ = some (.int .i64 0) := D_7.c 11 rfl); (try have gE11 : w7.frozen? ⟨w6.heap.size, 11, none⟩ = false := D_7.frozen 11); have G_7 := hide G7; obtain ⟨as7, cs7, hs7, -, -⟩ := G7.so.form; obtain ⟨ap7, cp7, hp7, -, -⟩ := G7.po.form; obtain ⟨al7, cl7, hl7, -, -⟩ := G7.lo.form; obtain ⟨ah7, ch7, hh7, -, -⟩ := G7.ho.form; subst hs7 hp7 hl7 hh7; clear G7 hb7 hS7; unfold millV)
          | (go_at_call 106; (first | (have hde := l20MillDeed_any R _ (.slice aS3 x.store.length cs3) (.slice ap3 x.pieces.length cp3) (.slice al3 x.low.length cl3) (.slice ah3 x.high.length ch3) x _ HRa.out (by omega) (HG.out _ hI) HF.out.few; unfold millV at hde; (with_reducible refine hde.mono ?_)) | (have hde := l20MillDeed_any R _ (.slice aS3 x.store.length cs3) (.slice ap3 x.pieces.length cp3) (.slice al3 x.low.length cl3) (.slice ah3 x.high.length ch3) x _ HRb.out (by omega) (HG.out _ hI2) HF.out.few; unfold millV at hde; (with_reducible refine hde.mono ?_))); clear hde; rintro e w6 ⟨dj, rfl, hd1, hd2, ho, hr⟩; obtain ⟨⟨y, ok⟩, hyo'⟩ : ∃ z, doR x dj = z := ⟨_, rfl⟩; have hfy : Hid (ok = true → Tight y) := hide (fun h => by have := tight_do (m := x) (d := dj) (by rw [hyo']; exact h); rwa [hyo'] at this); have hyo := hide hyo'; clear hyo'; have HQ : Other R (R + 1) wr w6 := (by first | exact (Other.of_below hI).trans ho | exact (Other.of_below hI2).trans ho); have HQ6 := hide (HO.out.trans HQ); have hz6 := HQ.size; have M_6 := M_r.other HQ (by omega); have Z_6 := Z_r.other HQ (by omega); have G_6 := hide (G_r.out.other HQ (by omega)); have HR6 := hide (hr.mono (m := k + 50 + 8 * (23 - d)) (by omega)); (try have C_6 : RowL w6 wr.heap.size 31 [.slice none 0 0, .int .i64 0, .int .i64 0, .int .i64 0, .int .i64 0, .int .i64 0, .int .i64 0, .int .i64 0, .slice none 0 0, .slice none 0 0, .slice none 0 0, .int .i64 0] := (RowL.new wr 31 [.slice none 0 0, .int .i64 0, .int .i64 0, .int .i64 0, .int .i64 0, .int .i64 0, .int .i64 0, .int .i64 0, .slice none 0 0, .slice none 0 0, .slice none 0 0, .int .i64 0]).drew.other ho (by omega)); have hlM6 := M_6.lt; have cD0 : w6.cell? ⟨w3.heap.size, 0, none⟩ = some (.slice aS3 x.store.length cs3) := M_6.c 0 rfl; have cD1 : w6.cell? ⟨w3.heap.size, 1, none⟩ = some (.int .i64 x.rule.lc) := M_6.c 1 rfl; have cD2 : w6.cell? ⟨w3.heap.size, 2, none⟩ = some (.int .i64 x.rule.hc) := M_6.c 2 rfl; have cD3 : w6.cell? ⟨w3.heap.size, 3, none⟩ = some (.int .i64 x.rule.lm) := M_6.c 3 rfl; have cD4 : w6.cell? ⟨w3.heap.size, 4, none⟩ = some (.int .i64 x.rule.hm) := M_6.c 4 rfl; have cD5 : w6.cell? ⟨w3.heap.size, 5, none⟩ = some (.int .i64 x.rule.ls) := M_6.c 5 rfl; have cD6 : w6.cell? ⟨w3.heap.size, 6, none⟩ = some (.int .i64 x.rule.hs) := M_6.c 6 rfl; have cD7 : w6.cell? ⟨w3.heap.size, 7, none⟩ = some (.int .i64 x.strand) := M_6.c 7 rfl; have cD8 : w6.cell? ⟨w3.heap.size, 8, none⟩ = some (.slice ap3 x.pieces.length cp3) := M_6.c 8 rfl; have cD9 : w6.cell? ⟨w3.heap.size, 9, none⟩ = some (.slice al3 x.low.length cl3) := M_6.c 9 rfl; have cD10 : w6.cell? ⟨w3.heap.size, 10, none⟩ = some (.slice ah3 x.high.length ch3) := M_6.c 10 rfl; have cD11 : w6.cell? ⟨w3.heap.size, 11, none⟩ = some (.int .i64 x.scrap) := M_6.c 11 rfl; clear ho hr HQ))
        all_goals
          clear cC0 cC1 cC2 cC3 cC4 cC5 cC6 cC7 cC8 cC9 cC10 cC11
          go_wp2_with fail
          go_meet
        all_goals
          first
            | (have hx := round_new (R := R) (k := k + 50 + 8 * (23 - d)) (w := w) (wr := wr) G_7.out (by first | omega | (simp; done) | (simp; omega)) M_7 X_7.out Z_7 (by omega) HO7.out HR7.out hfy.out (by omega) (by first | omega | (simp; done) | (simp; omega)) (by first | omega | (simp; done) | (simp; omega))
               with_reducible exact hx)
            | (have hx := round_old (R := R) (k := k + 50 + 8 * (23 - d)) (w := w) (wr := wr) C_7 rfl G_7.out (by first | omega | (simp; done) | (simp; omega)) M_7 X_7.out Z_7 (by omega) HO7.out HR7.out hfy.out (by omega) (by omega) (by omega) hlt (by first | omega | (simp; done) | (simp; omega)) (by first | omega | (simp; done) | (simp; omega))
               with_reducible exact hx)
            | (have hx := round_old (R := R) (k := k + 50 + 8 * (23 - d)) (w := w) (wr := wr) D_7 rfl G_7.out (by first | omega | (simp; done) | (simp; omega)) M_7 X_7.out Z_7 (by omega) HO7.out HR7.out hfy.out (by omega) (by omega) (by omega) hlt (by first | omega | (simp; done) | (simp; omega)) (by first | omega | (simp; done) | (simp; omega))
               with_reducible exact hx)
      clear cC0 cC1 cC2 cC3 cC4 cC5 cC6 cC7 cC8 cC9 cC10 cC11
      obtain ⟨y, ok, G, s4, p4, l4, h4, ⟨rfl, hrow, hgot, hof⟩, rfl, hfy, M_4', X_4, Z_4', hzc, ho4, hr4⟩ := hcut
      have G_x := hide X_4
      have G_y := hide hgot
      have HO_4 := hide ho4
      have HR_4 := hide hr4
      have hlG := hrow.lt
      obtain ⟨aS4, cs4, rfl, -, -⟩ := hgot.so.form
      obtain ⟨ap4, cp4, rfl, -, -⟩ := hgot.po.form
      obtain ⟨al4, cl4, rfl, -, -⟩ := hgot.lo.form
      obtain ⟨ah4, ch4, rfl, -, -⟩ := hgot.ho.form
      clear X_4 hgot ho4 hr4 hI hI2
      cases ok with
      | false =>
        go_wp2_with fail
        go_roundw
        case rel => exact ⟨d, _, _, _, _, x, by go_num, by omega, M_4', G_x.out, HOF3.out, HF.out, Z_4', HO_4.out, HR_4.out⟩
        case measure => simp [intOf] <;> omega
      | true =>
        have hfy := hide (hfy rfl)
        have cG0 : wc.cell? ⟨G, 0, none⟩ = some (.slice aS4 y.store.length cs4) := hrow.c 0 rfl
        have cG1 : wc.cell? ⟨G, 1, none⟩ = some (.int .i64 y.rule.lc) := hrow.c 1 rfl
        have cG2 : wc.cell? ⟨G, 2, none⟩ = some (.int .i64 y.rule.hc) := hrow.c 2 rfl
        have cG3 : wc.cell? ⟨G, 3, none⟩ = some (.int .i64 y.rule.lm) := hrow.c 3 rfl
        have cG4 : wc.cell? ⟨G, 4, none⟩ = some (.int .i64 y.rule.hm) := hrow.c 4 rfl
        have cG5 : wc.cell? ⟨G, 5, none⟩ = some (.int .i64 y.rule.ls) := hrow.c 5 rfl
        have cG6 : wc.cell? ⟨G, 6, none⟩ = some (.int .i64 y.rule.hs) := hrow.c 6 rfl
        have cG7 : wc.cell? ⟨G, 7, none⟩ = some (.int .i64 y.strand) := hrow.c 7 rfl
        have cG8 : wc.cell? ⟨G, 8, none⟩ = some (.slice ap4 y.pieces.length cp4) := hrow.c 8 rfl
        have cG9 : wc.cell? ⟨G, 9, none⟩ = some (.slice al4 y.low.length cl4) := hrow.c 9 rfl
        have cG10 : wc.cell? ⟨G, 10, none⟩ = some (.slice ah4 y.high.length ch4) := hrow.c 10 rfl
        have cG11 : wc.cell? ⟨G, 11, none⟩ = some (.int .i64 y.scrap) := hrow.c 11 rfl
        have cC0 : wc.cell? ⟨w3.heap.size, 0, none⟩ = some (.slice aS3 x.store.length cs3) := M_4'.c 0 rfl
        have cC1 : wc.cell? ⟨w3.heap.size, 1, none⟩ = some (.int .i64 x.rule.lc) := M_4'.c 1 rfl
        have cC2 : wc.cell? ⟨w3.heap.size, 2, none⟩ = some (.int .i64 x.rule.hc) := M_4'.c 2 rfl
        have cC3 : wc.cell? ⟨w3.heap.size, 3, none⟩ = some (.int .i64 x.rule.lm) := M_4'.c 3 rfl
        have cC4 : wc.cell? ⟨w3.heap.size, 4, none⟩ = some (.int .i64 x.rule.hm) := M_4'.c 4 rfl
        have cC5 : wc.cell? ⟨w3.heap.size, 5, none⟩ = some (.int .i64 x.rule.ls) := M_4'.c 5 rfl
        have cC6 : wc.cell? ⟨w3.heap.size, 6, none⟩ = some (.int .i64 x.rule.hs) := M_4'.c 6 rfl
        have cC7 : wc.cell? ⟨w3.heap.size, 7, none⟩ = some (.int .i64 x.strand) := M_4'.c 7 rfl
        have cC8 : wc.cell? ⟨w3.heap.size, 8, none⟩ = some (.slice ap3 x.pieces.length cp3) := M_4'.c 8 rfl
        have cC9 : wc.cell? ⟨w3.heap.size, 9, none⟩ = some (.slice al3 x.low.length cl3) := M_4'.c 9 rfl
        have cC10 : wc.cell? ⟨w3.heap.size, 10, none⟩ = some (.slice ah3 x.high.length ch3) := M_4'.c 10 rfl
        have cC11 : wc.cell? ⟨w3.heap.size, 11, none⟩ = some (.int .i64 x.scrap) := M_4'.c 11 rfl
        have fcC0 : wc.frozen? ⟨w3.heap.size, 0, none⟩ = false := M_4'.frozen 0
        have fcC1 : wc.frozen? ⟨w3.heap.size, 1, none⟩ = false := M_4'.frozen 1
        have fcC2 : wc.frozen? ⟨w3.heap.size, 2, none⟩ = false := M_4'.frozen 2
        have fcC3 : wc.frozen? ⟨w3.heap.size, 3, none⟩ = false := M_4'.frozen 3
        have fcC4 : wc.frozen? ⟨w3.heap.size, 4, none⟩ = false := M_4'.frozen 4
        have fcC5 : wc.frozen? ⟨w3.heap.size, 5, none⟩ = false := M_4'.frozen 5
        have fcC6 : wc.frozen? ⟨w3.heap.size, 6, none⟩ = false := M_4'.frozen 6
        have fcC7 : wc.frozen? ⟨w3.heap.size, 7, none⟩ = false := M_4'.frozen 7
        have fcC8 : wc.frozen? ⟨w3.heap.size, 8, none⟩ = false := M_4'.frozen 8
        have fcC9 : wc.frozen? ⟨w3.heap.size, 9, none⟩ = false := M_4'.frozen 9
        have fcC10 : wc.frozen? ⟨w3.heap.size, 10, none⟩ = false := M_4'.frozen 10
        have fcC11 : wc.frozen? ⟨w3.heap.size, 11, none⟩ = false := M_4'.frozen 11
        go_wp2_with fail
        go_roundw
        case rel =>
          have T := other12 w3.heap.size wc (.slice aS4 y.store.length cs4) (.int .i64 y.rule.lc) (.int .i64 y.rule.hc) (.int .i64 y.rule.lm) (.int .i64 y.rule.hm) (.int .i64 y.rule.ls) (.int .i64 y.rule.hs) (.int .i64 y.strand) (.slice ap4 y.pieces.length cp4) (.slice al4 y.low.length cl4) (.slice ah4 y.high.length ch4) (.int .i64 y.scrap)
          refine ⟨d, _, _, _, _, y, by go_num, by omega, row12 M_4' rfl _ _ _ _ _ _ _ _ _ _ _ _, G_y.out.past M_4' T, hof, hfy.out, Z_4'.other T (by omega), HO_4.out.step (T.below (B := w.heap.size) (by omega) (by omega)) (Nat.le_refl _), HR_4.out.keep (T.below (B := w.heap.size) (by omega) (by omega)) hlt⟩
        case measure => simp [intOf] <;> omega
    · obtain rfl : c = 0 := by omega
      go_wp2_with fail
      refine (odd_any R _ nn wr HR.out (by omega) (by omega) (by omega)).mono ?_
      rintro e w12 ⟨b, rfl, ho, hr⟩
      have M_12 := M_r.other ho (by omega)
      have Z_12 := Z_r.other ho (by omega)
      have G_12 := hide (G_r.out.other ho (by omega))
      have HO12 := hide (HO.out.trans ho)
      have HR12 := hide hr
      have hz12 := ho.size
      clear ho hr
      cases b with
      | false =>
      have cZ0 : w12.cell? ⟨w.heap.size, 0, none⟩ = some (.slice none 0 0) := Z_12.c 0 rfl
      have cZ1 : w12.cell? ⟨w.heap.size, 1, none⟩ = some (.int .i64 0) := Z_12.c 1 rfl
      have cZ2 : w12.cell? ⟨w.heap.size, 2, none⟩ = some (.int .i64 0) := Z_12.c 2 rfl
      have cZ3 : w12.cell? ⟨w.heap.size, 3, none⟩ = some (.int .i64 0) := Z_12.c 3 rfl
      have cZ4 : w12.cell? ⟨w.heap.size, 4, none⟩ = some (.int .i64 0) := Z_12.c 4 rfl
      have cZ5 : w12.cell? ⟨w.heap.size, 5, none⟩ = some (.int .i64 0) := Z_12.c 5 rfl
      have cZ6 : w12.cell? ⟨w.heap.size, 6, none⟩ = some (.int .i64 0) := Z_12.c 6 rfl
      have cZ7 : w12.cell? ⟨w.heap.size, 7, none⟩ = some (.int .i64 0) := Z_12.c 7 rfl
      have cZ8 : w12.cell? ⟨w.heap.size, 8, none⟩ = some (.slice none 0 0) := Z_12.c 8 rfl
      have cZ9 : w12.cell? ⟨w.heap.size, 9, none⟩ = some (.slice none 0 0) := Z_12.c 9 rfl
      have cZ10 : w12.cell? ⟨w.heap.size, 10, none⟩ = some (.slice none 0 0) := Z_12.c 10 rfl
      have cZ11 : w12.cell? ⟨w.heap.size, 11, none⟩ = some (.int .i64 0) := Z_12.c 11 rfl
      have fcZ0 := Z_12.frozen 0
      have fcZ1 := Z_12.frozen 1
      have fcZ2 := Z_12.frozen 2
      have fcZ3 := Z_12.frozen 3
      have fcZ4 := Z_12.frozen 4
      have fcZ5 := Z_12.frozen 5
      have fcZ6 := Z_12.frozen 6
      have fcZ7 := Z_12.frozen 7
      have fcZ8 := Z_12.frozen 8
      have fcZ9 := Z_12.frozen 9
      have fcZ10 := Z_12.frozen 10
      have fcZ11 := Z_12.frozen 11
      have cC0 : w12.cell? ⟨w3.heap.size, 0, none⟩ = some (.slice aS3 x.store.length cs3) := M_12.c 0 rfl
      have cC1 : w12.cell? ⟨w3.heap.size, 1, none⟩ = some (.int .i64 x.rule.lc) := M_12.c 1 rfl
      have cC2 : w12.cell? ⟨w3.heap.size, 2, none⟩ = some (.int .i64 x.rule.hc) := M_12.c 2 rfl
      have cC3 : w12.cell? ⟨w3.heap.size, 3, none⟩ = some (.int .i64 x.rule.lm) := M_12.c 3 rfl
      have cC4 : w12.cell? ⟨w3.heap.size, 4, none⟩ = some (.int .i64 x.rule.hm) := M_12.c 4 rfl
      have cC5 : w12.cell? ⟨w3.heap.size, 5, none⟩ = some (.int .i64 x.rule.ls) := M_12.c 5 rfl
      have cC6 : w12.cell? ⟨w3.heap.size, 6, none⟩ = some (.int .i64 x.rule.hs) := M_12.c 6 rfl
      have cC7 : w12.cell? ⟨w3.heap.size, 7, none⟩ = some (.int .i64 x.strand) := M_12.c 7 rfl
      have cC8 : w12.cell? ⟨w3.heap.size, 8, none⟩ = some (.slice ap3 x.pieces.length cp3) := M_12.c 8 rfl
      have cC9 : w12.cell? ⟨w3.heap.size, 9, none⟩ = some (.slice al3 x.low.length cl3) := M_12.c 9 rfl
      have cC10 : w12.cell? ⟨w3.heap.size, 10, none⟩ = some (.slice ah3 x.high.length ch3) := M_12.c 10 rfl
      have cC11 : w12.cell? ⟨w3.heap.size, 11, none⟩ = some (.int .i64 x.scrap) := M_12.c 11 rfl
      go_wp2_with fail
      refine bodyPost_ret (by simp [results, Tryz.results57, go_sem, cZ0, cZ1, cZ2, cZ3, cZ4, cZ5, cZ6, cZ7, cZ8, cZ9, cZ10, cZ11]; try rfl) rfl ?_
      have T := other12 w.heap.size w12 (.slice aS3 x.store.length cs3) (.int .i64 x.rule.lc) (.int .i64 x.rule.hc) (.int .i64 x.rule.lm) (.int .i64 x.rule.hm) (.int .i64 x.rule.ls) (.int .i64 x.rule.hs) (.int .i64 x.strand) (.slice ap3 x.pieces.length cp3) (.slice al3 x.low.length cl3) (.slice ah3 x.high.length ch3) (.int .i64 x.scrap)
      exact ⟨_, _, _, _, _, rfl, (G_12.out).past Z_12 T, HF.out.few, (HO12.out).step (T.below (B := w.heap.size) (by omega) (by omega)) (Nat.le_refl _), ((HR12.out).keep (T.below (B := w.heap.size) (by omega) (by omega)) hlt).mono (by omega)⟩
      | true =>
        go_wp2_with fail
        refine (pick_in R _ 4 w12 HR12.out (by omega) (by omega) (by omega)).mono ?_
        rintro e w13 ⟨q, rfl, q0, q1, ho, hr⟩
        have M_13 := M_12.other ho (by omega)
        have Z_13 := Z_12.other ho (by omega)
        have G_13 := hide (G_12.out.other ho (by omega))
        have HO13 := hide (HO12.out.trans ho)
        have HR13 := hide hr
        have hz13 := ho.size
        clear ho hr
        obtain rfl | rfl | rfl | rfl : q = 0 ∨ q = 1 ∨ q = 2 ∨ q = 3 := by omega
        · go_wp2_with fail
          refine calls_at fun wy hwy => ?_
          have L_y : RowL wy w13.heap.size 3 [.int .i64 (-1), .int .i64 49] := by rw [hwy]; exact RowL.new _ _ _
          have hb : Below w13.heap.size w13 wy := by rw [hwy]; exact (Below.refl _ _).alloc (Nat.le_refl _) _
          have M_y := M_13.below hb M_13.lt
          have Z_y := Z_13.below hb Z_13.lt
          have G_y := hide (G_13.out.below hb)
          have HOy := hide (HO13.out.step hb (by omega))
          have HRy := hide (HR13.out.keep hb HR13.out.lt)
          have hzy := L_y.lt
          clear hwy hb
          refine (pick_in R _ 2 wy HRy.out (by omega) (by omega) (by omega)).mono ?_
          rintro e w14 ⟨t, rfl, t0, t1, ho, hr⟩
          have L_14 := L_y.other ho (by omega)
          have M_14 := M_y.other ho (by omega)
          have Z_14 := Z_y.other ho (by omega)
          have G_14 := hide (G_y.out.other ho (by omega))
          have HO14 := hide (HOy.out.trans ho)
          have HR14 := hide hr
          have hz14 := ho.size
          clear ho hr
          obtain rfl | rfl : t = 0 ∨ t = 1 := by omega
          · have cL : w14.cell? ⟨w13.heap.size, 0, none⟩ = some (.int .i64 (-1)) := L_14.c 0 rfl
            have cS7 : w14.cell? ⟨w3.heap.size, 7, none⟩ = some (.int .i64 x.strand) := M_14.c 7 rfl
            have fcS7 := M_14.frozen 7
            obtain ⟨wv, hwv⟩ : ∃ u : World, u = w14.setCell ⟨w3.heap.size, 7, none⟩ (.int .i64 (-1)) := ⟨_, rfl⟩
            obtain ⟨M_v, G_v, T⟩ := num_put M_14 G_14.out (-1) x.scrap wv 7 _ hwv rfl (by omega)
            have Z_v := Z_14.other T (by omega)
            have HOv := hide (HO14.out.step (T.below (B := w.heap.size) (by omega) (by omega)) (Nat.le_refl _))
            have HRv := hide (HR14.out.keep (T.below (B := w.heap.size) (by omega) (by omega)) hlt)
            have hzv := T.size
            clear T
            have cZ0 : wv.cell? ⟨w.heap.size, 0, none⟩ = some (.slice none 0 0) := Z_v.c 0 rfl
            have cZ1 : wv.cell? ⟨w.heap.size, 1, none⟩ = some (.int .i64 0) := Z_v.c 1 rfl
            have cZ2 : wv.cell? ⟨w.heap.size, 2, none⟩ = some (.int .i64 0) := Z_v.c 2 rfl
            have cZ3 : wv.cell? ⟨w.heap.size, 3, none⟩ = some (.int .i64 0) := Z_v.c 3 rfl
            have cZ4 : wv.cell? ⟨w.heap.size, 4, none⟩ = some (.int .i64 0) := Z_v.c 4 rfl
            have cZ5 : wv.cell? ⟨w.heap.size, 5, none⟩ = some (.int .i64 0) := Z_v.c 5 rfl
            have cZ6 : wv.cell? ⟨w.heap.size, 6, none⟩ = some (.int .i64 0) := Z_v.c 6 rfl
            have cZ7 : wv.cell? ⟨w.heap.size, 7, none⟩ = some (.int .i64 0) := Z_v.c 7 rfl
            have cZ8 : wv.cell? ⟨w.heap.size, 8, none⟩ = some (.slice none 0 0) := Z_v.c 8 rfl
            have cZ9 : wv.cell? ⟨w.heap.size, 9, none⟩ = some (.slice none 0 0) := Z_v.c 9 rfl
            have cZ10 : wv.cell? ⟨w.heap.size, 10, none⟩ = some (.slice none 0 0) := Z_v.c 10 rfl
            have cZ11 : wv.cell? ⟨w.heap.size, 11, none⟩ = some (.int .i64 0) := Z_v.c 11 rfl
            have fcZ0 := Z_v.frozen 0
            have fcZ1 := Z_v.frozen 1
            have fcZ2 := Z_v.frozen 2
            have fcZ3 := Z_v.frozen 3
            have fcZ4 := Z_v.frozen 4
            have fcZ5 := Z_v.frozen 5
            have fcZ6 := Z_v.frozen 6
            have fcZ7 := Z_v.frozen 7
            have fcZ8 := Z_v.frozen 8
            have fcZ9 := Z_v.frozen 9
            have fcZ10 := Z_v.frozen 10
            have fcZ11 := Z_v.frozen 11
            have cC0 : wv.cell? ⟨w3.heap.size, 0, none⟩ = some (.slice aS3 x.store.length cs3) := M_v.c 0 rfl
            have cC1 : wv.cell? ⟨w3.heap.size, 1, none⟩ = some (.int .i64 x.rule.lc) := M_v.c 1 rfl
            have cC2 : wv.cell? ⟨w3.heap.size, 2, none⟩ = some (.int .i64 x.rule.hc) := M_v.c 2 rfl
            have cC3 : wv.cell? ⟨w3.heap.size, 3, none⟩ = some (.int .i64 x.rule.lm) := M_v.c 3 rfl
            have cC4 : wv.cell? ⟨w3.heap.size, 4, none⟩ = some (.int .i64 x.rule.hm) := M_v.c 4 rfl
            have cC5 : wv.cell? ⟨w3.heap.size, 5, none⟩ = some (.int .i64 x.rule.ls) := M_v.c 5 rfl
            have cC6 : wv.cell? ⟨w3.heap.size, 6, none⟩ = some (.int .i64 x.rule.hs) := M_v.c 6 rfl
            have cC7 : wv.cell? ⟨w3.heap.size, 7, none⟩ = some (.int .i64 (-1)) := M_v.c 7 rfl
            have cC8 : wv.cell? ⟨w3.heap.size, 8, none⟩ = some (.slice ap3 x.pieces.length cp3) := M_v.c 8 rfl
            have cC9 : wv.cell? ⟨w3.heap.size, 9, none⟩ = some (.slice al3 x.low.length cl3) := M_v.c 9 rfl
            have cC10 : wv.cell? ⟨w3.heap.size, 10, none⟩ = some (.slice ah3 x.high.length ch3) := M_v.c 10 rfl
            have cC11 : wv.cell? ⟨w3.heap.size, 11, none⟩ = some (.int .i64 x.scrap) := M_v.c 11 rfl
            go_upto_region 22 with fail
            rw [← hwv]
            clear hwv
            go_wp2_with fail
            refine bodyPost_ret (by simp [results, Tryz.results57, go_sem, cZ0, cZ1, cZ2, cZ3, cZ4, cZ5, cZ6, cZ7, cZ8, cZ9, cZ10, cZ11]; try rfl) rfl ?_
            have T := other12 w.heap.size wv (.slice aS3 x.store.length cs3) (.int .i64 x.rule.lc) (.int .i64 x.rule.hc) (.int .i64 x.rule.lm) (.int .i64 x.rule.hm) (.int .i64 x.rule.ls) (.int .i64 x.rule.hs) (.int .i64 (-1)) (.slice ap3 x.pieces.length cp3) (.slice al3 x.low.length cl3) (.slice ah3 x.high.length ch3) (.int .i64 x.scrap)
            exact ⟨_, _, _, _, { x with strand := -1, scrap := x.scrap }, rfl, G_v.past Z_v T, ⟨HF.out.few.p, HF.out.few.l⟩, HOv.out.step (T.below (B := w.heap.size) (by omega) (by omega)) (Nat.le_refl _), (HRv.out.keep (T.below (B := w.heap.size) (by omega) (by omega)) hlt).mono (by omega)⟩
          · have cL : w14.cell? ⟨w13.heap.size, 1, none⟩ = some (.int .i64 (49)) := L_14.c 1 rfl
            have cS7 : w14.cell? ⟨w3.heap.size, 7, none⟩ = some (.int .i64 x.strand) := M_14.c 7 rfl
            have fcS7 := M_14.frozen 7
            obtain ⟨wv, hwv⟩ : ∃ u : World, u = w14.setCell ⟨w3.heap.size, 7, none⟩ (.int .i64 (49)) := ⟨_, rfl⟩
            obtain ⟨M_v, G_v, T⟩ := num_put M_14 G_14.out (49) x.scrap wv 7 _ hwv rfl (by omega)
            have Z_v := Z_14.other T (by omega)
            have HOv := hide (HO14.out.step (T.below (B := w.heap.size) (by omega) (by omega)) (Nat.le_refl _))
            have HRv := hide (HR14.out.keep (T.below (B := w.heap.size) (by omega) (by omega)) hlt)
            have hzv := T.size
            clear T
            have cZ0 : wv.cell? ⟨w.heap.size, 0, none⟩ = some (.slice none 0 0) := Z_v.c 0 rfl
            have cZ1 : wv.cell? ⟨w.heap.size, 1, none⟩ = some (.int .i64 0) := Z_v.c 1 rfl
            have cZ2 : wv.cell? ⟨w.heap.size, 2, none⟩ = some (.int .i64 0) := Z_v.c 2 rfl
            have cZ3 : wv.cell? ⟨w.heap.size, 3, none⟩ = some (.int .i64 0) := Z_v.c 3 rfl
            have cZ4 : wv.cell? ⟨w.heap.size, 4, none⟩ = some (.int .i64 0) := Z_v.c 4 rfl
            have cZ5 : wv.cell? ⟨w.heap.size, 5, none⟩ = some (.int .i64 0) := Z_v.c 5 rfl
            have cZ6 : wv.cell? ⟨w.heap.size, 6, none⟩ = some (.int .i64 0) := Z_v.c 6 rfl
            have cZ7 : wv.cell? ⟨w.heap.size, 7, none⟩ = some (.int .i64 0) := Z_v.c 7 rfl
            have cZ8 : wv.cell? ⟨w.heap.size, 8, none⟩ = some (.slice none 0 0) := Z_v.c 8 rfl
            have cZ9 : wv.cell? ⟨w.heap.size, 9, none⟩ = some (.slice none 0 0) := Z_v.c 9 rfl
            have cZ10 : wv.cell? ⟨w.heap.size, 10, none⟩ = some (.slice none 0 0) := Z_v.c 10 rfl
            have cZ11 : wv.cell? ⟨w.heap.size, 11, none⟩ = some (.int .i64 0) := Z_v.c 11 rfl
            have fcZ0 := Z_v.frozen 0
            have fcZ1 := Z_v.frozen 1
            have fcZ2 := Z_v.frozen 2
            have fcZ3 := Z_v.frozen 3
            have fcZ4 := Z_v.frozen 4
            have fcZ5 := Z_v.frozen 5
            have fcZ6 := Z_v.frozen 6
            have fcZ7 := Z_v.frozen 7
            have fcZ8 := Z_v.frozen 8
            have fcZ9 := Z_v.frozen 9
            have fcZ10 := Z_v.frozen 10
            have fcZ11 := Z_v.frozen 11
            have cC0 : wv.cell? ⟨w3.heap.size, 0, none⟩ = some (.slice aS3 x.store.length cs3) := M_v.c 0 rfl
            have cC1 : wv.cell? ⟨w3.heap.size, 1, none⟩ = some (.int .i64 x.rule.lc) := M_v.c 1 rfl
            have cC2 : wv.cell? ⟨w3.heap.size, 2, none⟩ = some (.int .i64 x.rule.hc) := M_v.c 2 rfl
            have cC3 : wv.cell? ⟨w3.heap.size, 3, none⟩ = some (.int .i64 x.rule.lm) := M_v.c 3 rfl
            have cC4 : wv.cell? ⟨w3.heap.size, 4, none⟩ = some (.int .i64 x.rule.hm) := M_v.c 4 rfl
            have cC5 : wv.cell? ⟨w3.heap.size, 5, none⟩ = some (.int .i64 x.rule.ls) := M_v.c 5 rfl
            have cC6 : wv.cell? ⟨w3.heap.size, 6, none⟩ = some (.int .i64 x.rule.hs) := M_v.c 6 rfl
            have cC7 : wv.cell? ⟨w3.heap.size, 7, none⟩ = some (.int .i64 (49)) := M_v.c 7 rfl
            have cC8 : wv.cell? ⟨w3.heap.size, 8, none⟩ = some (.slice ap3 x.pieces.length cp3) := M_v.c 8 rfl
            have cC9 : wv.cell? ⟨w3.heap.size, 9, none⟩ = some (.slice al3 x.low.length cl3) := M_v.c 9 rfl
            have cC10 : wv.cell? ⟨w3.heap.size, 10, none⟩ = some (.slice ah3 x.high.length ch3) := M_v.c 10 rfl
            have cC11 : wv.cell? ⟨w3.heap.size, 11, none⟩ = some (.int .i64 x.scrap) := M_v.c 11 rfl
            go_upto_region 22 with fail
            rw [← hwv]
            clear hwv
            go_wp2_with fail
            refine bodyPost_ret (by simp [results, Tryz.results57, go_sem, cZ0, cZ1, cZ2, cZ3, cZ4, cZ5, cZ6, cZ7, cZ8, cZ9, cZ10, cZ11]; try rfl) rfl ?_
            have T := other12 w.heap.size wv (.slice aS3 x.store.length cs3) (.int .i64 x.rule.lc) (.int .i64 x.rule.hc) (.int .i64 x.rule.lm) (.int .i64 x.rule.hm) (.int .i64 x.rule.ls) (.int .i64 x.rule.hs) (.int .i64 (49)) (.slice ap3 x.pieces.length cp3) (.slice al3 x.low.length cl3) (.slice ah3 x.high.length ch3) (.int .i64 x.scrap)
            exact ⟨_, _, _, _, { x with strand := 49, scrap := x.scrap }, rfl, G_v.past Z_v T, ⟨HF.out.few.p, HF.out.few.l⟩, HOv.out.step (T.below (B := w.heap.size) (by omega) (by omega)) (Nat.le_refl _), (HRv.out.keep (T.below (B := w.heap.size) (by omega) (by omega)) hlt).mono (by omega)⟩
        · skip
          have cS11 : w13.cell? ⟨w3.heap.size, 11, none⟩ = some (.int .i64 x.scrap) := M_13.c 11 rfl
          have fcS11 := M_13.frozen 11
          obtain ⟨wv, hwv⟩ : ∃ u : World, u = w13.setCell ⟨w3.heap.size, 11, none⟩ (.int .i64 (-1)) := ⟨_, rfl⟩
          obtain ⟨M_v, G_v, T⟩ := num_put M_13 G_13.out x.strand (-1) wv 11 _ hwv rfl (by omega)
          have Z_v := Z_13.other T (by omega)
          have HOv := hide (HO13.out.step (T.below (B := w.heap.size) (by omega) (by omega)) (Nat.le_refl _))
          have HRv := hide (HR13.out.keep (T.below (B := w.heap.size) (by omega) (by omega)) hlt)
          have hzv := T.size
          clear T
          have cZ0 : wv.cell? ⟨w.heap.size, 0, none⟩ = some (.slice none 0 0) := Z_v.c 0 rfl
          have cZ1 : wv.cell? ⟨w.heap.size, 1, none⟩ = some (.int .i64 0) := Z_v.c 1 rfl
          have cZ2 : wv.cell? ⟨w.heap.size, 2, none⟩ = some (.int .i64 0) := Z_v.c 2 rfl
          have cZ3 : wv.cell? ⟨w.heap.size, 3, none⟩ = some (.int .i64 0) := Z_v.c 3 rfl
          have cZ4 : wv.cell? ⟨w.heap.size, 4, none⟩ = some (.int .i64 0) := Z_v.c 4 rfl
          have cZ5 : wv.cell? ⟨w.heap.size, 5, none⟩ = some (.int .i64 0) := Z_v.c 5 rfl
          have cZ6 : wv.cell? ⟨w.heap.size, 6, none⟩ = some (.int .i64 0) := Z_v.c 6 rfl
          have cZ7 : wv.cell? ⟨w.heap.size, 7, none⟩ = some (.int .i64 0) := Z_v.c 7 rfl
          have cZ8 : wv.cell? ⟨w.heap.size, 8, none⟩ = some (.slice none 0 0) := Z_v.c 8 rfl
          have cZ9 : wv.cell? ⟨w.heap.size, 9, none⟩ = some (.slice none 0 0) := Z_v.c 9 rfl
          have cZ10 : wv.cell? ⟨w.heap.size, 10, none⟩ = some (.slice none 0 0) := Z_v.c 10 rfl
          have cZ11 : wv.cell? ⟨w.heap.size, 11, none⟩ = some (.int .i64 0) := Z_v.c 11 rfl
          have fcZ0 := Z_v.frozen 0
          have fcZ1 := Z_v.frozen 1
          have fcZ2 := Z_v.frozen 2
          have fcZ3 := Z_v.frozen 3
          have fcZ4 := Z_v.frozen 4
          have fcZ5 := Z_v.frozen 5
          have fcZ6 := Z_v.frozen 6
          have fcZ7 := Z_v.frozen 7
          have fcZ8 := Z_v.frozen 8
          have fcZ9 := Z_v.frozen 9
          have fcZ10 := Z_v.frozen 10
          have fcZ11 := Z_v.frozen 11
          have cC0 : wv.cell? ⟨w3.heap.size, 0, none⟩ = some (.slice aS3 x.store.length cs3) := M_v.c 0 rfl
          have cC1 : wv.cell? ⟨w3.heap.size, 1, none⟩ = some (.int .i64 x.rule.lc) := M_v.c 1 rfl
          have cC2 : wv.cell? ⟨w3.heap.size, 2, none⟩ = some (.int .i64 x.rule.hc) := M_v.c 2 rfl
          have cC3 : wv.cell? ⟨w3.heap.size, 3, none⟩ = some (.int .i64 x.rule.lm) := M_v.c 3 rfl
          have cC4 : wv.cell? ⟨w3.heap.size, 4, none⟩ = some (.int .i64 x.rule.hm) := M_v.c 4 rfl
          have cC5 : wv.cell? ⟨w3.heap.size, 5, none⟩ = some (.int .i64 x.rule.ls) := M_v.c 5 rfl
          have cC6 : wv.cell? ⟨w3.heap.size, 6, none⟩ = some (.int .i64 x.rule.hs) := M_v.c 6 rfl
          have cC7 : wv.cell? ⟨w3.heap.size, 7, none⟩ = some (.int .i64 x.strand) := M_v.c 7 rfl
          have cC8 : wv.cell? ⟨w3.heap.size, 8, none⟩ = some (.slice ap3 x.pieces.length cp3) := M_v.c 8 rfl
          have cC9 : wv.cell? ⟨w3.heap.size, 9, none⟩ = some (.slice al3 x.low.length cl3) := M_v.c 9 rfl
          have cC10 : wv.cell? ⟨w3.heap.size, 10, none⟩ = some (.slice ah3 x.high.length ch3) := M_v.c 10 rfl
          have cC11 : wv.cell? ⟨w3.heap.size, 11, none⟩ = some (.int .i64 (-1)) := M_v.c 11 rfl
          go_upto_region 22 with fail
          rw [← hwv]
          clear hwv
          go_wp2_with fail
          refine bodyPost_ret (by simp [results, Tryz.results57, go_sem, cZ0, cZ1, cZ2, cZ3, cZ4, cZ5, cZ6, cZ7, cZ8, cZ9, cZ10, cZ11]; try rfl) rfl ?_
          have T := other12 w.heap.size wv (.slice aS3 x.store.length cs3) (.int .i64 x.rule.lc) (.int .i64 x.rule.hc) (.int .i64 x.rule.lm) (.int .i64 x.rule.hm) (.int .i64 x.rule.ls) (.int .i64 x.rule.hs) (.int .i64 x.strand) (.slice ap3 x.pieces.length cp3) (.slice al3 x.low.length cl3) (.slice ah3 x.high.length ch3) (.int .i64 (-1))
          exact ⟨_, _, _, _, { x with strand := x.strand, scrap := -1 }, rfl, G_v.past Z_v T, ⟨HF.out.few.p, HF.out.few.l⟩, HOv.out.step (T.below (B := w.heap.size) (by omega) (by omega)) (Nat.le_refl _), (HRv.out.keep (T.below (B := w.heap.size) (by omega) (by omega)) hlt).mono (by omega)⟩
        · obtain ⟨i0, hi0, hy0, hi1, hi2⟩ := info_parts info_Pc
          have cS8 : w13.cell? ⟨w3.heap.size, 8, none⟩ = some (.slice ap3 x.pieces.length cp3) := M_13.c 8 rfl
          have fcS8 := M_13.frozen 8
          go_wp2_with (at_builtin; refine wpList_append_E rfl _ _ 26 rfl w.heap.size 73 i0 _ 2 16 Tryz.underlying26 hi0 hy0 hi1 hi2 rfl (by decide) _ _ _ rfl (G_13.out.po.alloc _) (.slice (some ⟨w13.heap.size, 0, none⟩) 1 1) 1 (flatP [(⟨5, 1⟩ : Pc)]) rfl ?c0 ?c1 ?c2 ?c3 ?_)
          case c0 => exact Source.lit w13 (flatP [(⟨5, 1⟩ : Pc)]) 2 73 1 rfl (flatP_one _) 1
          case c1 => unfold maxLen; have := HF.out.p; have := HF.out.l; omega
          case c2 => have := HF.out.p; have := HF.out.l; omega
          case c3 => simp; omega
          intro v2 w14 own2 hg hn
          have hb : Below w13.heap.size w13 (w13.alloc (.cells (flatP [(⟨5, 1⟩ : Pc)]).toArray 73)) := (Below.refl _ _).alloc (Nat.le_refl _) _
          have M_a := M_13.below hb M_13.lt
          have Z_a := Z_13.below hb Z_13.lt
          have G_a := G_13.out.below hb
          have HOa := HO13.out.step hb (by omega)
          have HRa := HR13.out.keep hb HR13.out.lt
          have hza := hb.size
          have M_14 := grown_row M_a hg (fun g h => (HOF3.out g (.inl h)).1)
          have Z_14 := grown_row Z_a hg (fun g h => (HOF3.out g (.inl h)).2)
          have G_14 : MillGot w.heap.size w14 _ _ _ _ { x with pieces := x.pieces ++ [(⟨5, 1⟩ : Pc)] } := grow_pieces G_a (by rw [flatP_append, List.length_append]; exact own2) hg (by simpa using hn)
          have hb2 : Below w.heap.size (w13.alloc (.cells (flatP [(⟨5, 1⟩ : Pc)]).toArray 73)) w14 := Below.growE hg G_a.po (Nat.le_refl _) (by omega)
          have HO14 := HOa.step hb2 (Nat.le_refl _)
          have HR14 := HRa.keep hb2 hlt
          have hz14 := hb2.size
          obtain ⟨ao14, cap14, rfl, -, -⟩ := own2.form
          have G_14 := hide G_14
          have HO14 := hide HO14
          have HR14 := hide HR14
          clear own2 hg hn hb hb2 M_a Z_a G_a HOa HRa
          have cT8 : w14.cell? ⟨w3.heap.size, 8, none⟩ = some (.slice ap3 x.pieces.length cp3) := M_14.c 8 rfl
          have fcT8 := M_14.frozen 8
          obtain ⟨wv, hwv⟩ : ∃ u : World, u = w14.setCell ⟨w3.heap.size, 8, none⟩ (.slice ao14 (x.pieces.length + 1) cap14) := ⟨_, rfl⟩
          have T : Other w3.heap.size (w3.heap.size + 1) w14 wv := by rw [hwv]; exact Other.setCell (p := ⟨w3.heap.size, 8, none⟩) (Other.refl _ _ _) (Nat.le_refl _) (Nat.lt_succ_self _) _
          have M_v : RowL wv w3.heap.size 31 [.slice aS3 x.store.length cs3, .int .i64 x.rule.lc, .int .i64 x.rule.hc, .int .i64 x.rule.lm, .int .i64 x.rule.hm, .int .i64 x.rule.ls, .int .i64 x.rule.hs, .int .i64 x.strand, .slice ao14 (x.pieces.length + 1) cap14, .slice al3 x.low.length cl3, .slice ah3 x.high.length ch3, .int .i64 x.scrap] := by rw [hwv]; exact M_14.set 8 _ (by simp [millC])
          have Z_v := Z_14.other T (by omega)
          have G_v := hide (G_14.out.past M_14 T)
          have HOv := hide (HO14.out.step (T.below (B := w.heap.size) (by omega) (by omega)) (Nat.le_refl _))
          have HRv := hide (HR14.out.keep (T.below (B := w.heap.size) (by omega) (by omega)) hlt)
          have hzv := T.size
          clear T
          have cZ0 : wv.cell? ⟨w.heap.size, 0, none⟩ = some (.slice none 0 0) := Z_v.c 0 rfl
          have cZ1 : wv.cell? ⟨w.heap.size, 1, none⟩ = some (.int .i64 0) := Z_v.c 1 rfl
          have cZ2 : wv.cell? ⟨w.heap.size, 2, none⟩ = some (.int .i64 0) := Z_v.c 2 rfl
          have cZ3 : wv.cell? ⟨w.heap.size, 3, none⟩ = some (.int .i64 0) := Z_v.c 3 rfl
          have cZ4 : wv.cell? ⟨w.heap.size, 4, none⟩ = some (.int .i64 0) := Z_v.c 4 rfl
          have cZ5 : wv.cell? ⟨w.heap.size, 5, none⟩ = some (.int .i64 0) := Z_v.c 5 rfl
          have cZ6 : wv.cell? ⟨w.heap.size, 6, none⟩ = some (.int .i64 0) := Z_v.c 6 rfl
          have cZ7 : wv.cell? ⟨w.heap.size, 7, none⟩ = some (.int .i64 0) := Z_v.c 7 rfl
          have cZ8 : wv.cell? ⟨w.heap.size, 8, none⟩ = some (.slice none 0 0) := Z_v.c 8 rfl
          have cZ9 : wv.cell? ⟨w.heap.size, 9, none⟩ = some (.slice none 0 0) := Z_v.c 9 rfl
          have cZ10 : wv.cell? ⟨w.heap.size, 10, none⟩ = some (.slice none 0 0) := Z_v.c 10 rfl
          have cZ11 : wv.cell? ⟨w.heap.size, 11, none⟩ = some (.int .i64 0) := Z_v.c 11 rfl
          have fcZ0 := Z_v.frozen 0
          have fcZ1 := Z_v.frozen 1
          have fcZ2 := Z_v.frozen 2
          have fcZ3 := Z_v.frozen 3
          have fcZ4 := Z_v.frozen 4
          have fcZ5 := Z_v.frozen 5
          have fcZ6 := Z_v.frozen 6
          have fcZ7 := Z_v.frozen 7
          have fcZ8 := Z_v.frozen 8
          have fcZ9 := Z_v.frozen 9
          have fcZ10 := Z_v.frozen 10
          have fcZ11 := Z_v.frozen 11
          have cC0 : wv.cell? ⟨w3.heap.size, 0, none⟩ = some (.slice aS3 x.store.length cs3) := M_v.c 0 rfl
          have cC1 : wv.cell? ⟨w3.heap.size, 1, none⟩ = some (.int .i64 x.rule.lc) := M_v.c 1 rfl
          have cC2 : wv.cell? ⟨w3.heap.size, 2, none⟩ = some (.int .i64 x.rule.hc) := M_v.c 2 rfl
          have cC3 : wv.cell? ⟨w3.heap.size, 3, none⟩ = some (.int .i64 x.rule.lm) := M_v.c 3 rfl
          have cC4 : wv.cell? ⟨w3.heap.size, 4, none⟩ = some (.int .i64 x.rule.hm) := M_v.c 4 rfl
          have cC5 : wv.cell? ⟨w3.heap.size, 5, none⟩ = some (.int .i64 x.rule.ls) := M_v.c 5 rfl
          have cC6 : wv.cell? ⟨w3.heap.size, 6, none⟩ = some (.int .i64 x.rule.hs) := M_v.c 6 rfl
          have cC7 : wv.cell? ⟨w3.heap.size, 7, none⟩ = some (.int .i64 x.strand) := M_v.c 7 rfl
          have cC8 : wv.cell? ⟨w3.heap.size, 8, none⟩ = some (.slice ao14 (x.pieces.length + 1) cap14) := M_v.c 8 rfl
          have cC9 : wv.cell? ⟨w3.heap.size, 9, none⟩ = some (.slice al3 x.low.length cl3) := M_v.c 9 rfl
          have cC10 : wv.cell? ⟨w3.heap.size, 10, none⟩ = some (.slice ah3 x.high.length ch3) := M_v.c 10 rfl
          have cC11 : wv.cell? ⟨w3.heap.size, 11, none⟩ = some (.int .i64 x.scrap) := M_v.c 11 rfl
          go_upto_region 22 with fail
          rw [← hwv]
          clear hwv
          go_wp2_with fail
          refine bodyPost_ret (by simp [results, Tryz.results57, go_sem, cZ0, cZ1, cZ2, cZ3, cZ4, cZ5, cZ6, cZ7, cZ8, cZ9, cZ10, cZ11]; try rfl) rfl ?_
          have T := other12 w.heap.size wv (.slice aS3 x.store.length cs3) (.int .i64 x.rule.lc) (.int .i64 x.rule.hc) (.int .i64 x.rule.lm) (.int .i64 x.rule.hm) (.int .i64 x.rule.ls) (.int .i64 x.rule.hs) (.int .i64 x.strand) (.slice ao14 (x.pieces.length + 1) cap14) (.slice al3 x.low.length cl3) (.slice ah3 x.high.length ch3) (.int .i64 x.scrap)
          exact ⟨_, _, _, _, { x with pieces := x.pieces ++ [(⟨5, 1⟩ : Pc)] }, rfl, G_v.out.past Z_v T, ⟨by have := HF.out.p; simp; omega, HF.out.few.l⟩, HOv.out.step (T.below (B := w.heap.size) (by omega) (by omega)) (Nat.le_refl _), (HRv.out.keep (T.below (B := w.heap.size) (by omega) (by omega)) hlt).mono (by omega)⟩
        · obtain ⟨i0, hi0, hy0, hi1, hi2⟩ := info_parts info_int
          have cS9 : w13.cell? ⟨w3.heap.size, 9, none⟩ = some (.slice al3 x.low.length cl3) := M_13.c 9 rfl
          have fcS9 := M_13.frozen 9
          go_wp2_with (at_builtin; refine wpList_append_E rfl _ _ 27 rfl w.heap.size 3 i0 _ 1 8 Tryz.underlying27 hi0 hy0 hi1 hi2 rfl (by decide) _ _ _ rfl (G_13.out.lo.alloc _) (.slice (some ⟨w13.heap.size, 0, none⟩) 1 1) 1 (flatI [0]) rfl ?c0 ?c1 ?c2 ?c3 ?_)
          case c0 => exact Source.lit w13 (flatI [0]) 1 3 1 rfl (flatI_one _) 1
          case c1 => unfold maxLen; have := HF.out.p; have := HF.out.l; omega
          case c2 => have := HF.out.p; have := HF.out.l; omega
          case c3 => simp; omega
          intro v2 w14 own2 hg hn
          have hb : Below w13.heap.size w13 (w13.alloc (.cells (flatI [0]).toArray 3)) := (Below.refl _ _).alloc (Nat.le_refl _) _
          have M_a := M_13.below hb M_13.lt
          have Z_a := Z_13.below hb Z_13.lt
          have G_a := G_13.out.below hb
          have HOa := HO13.out.step hb (by omega)
          have HRa := HR13.out.keep hb HR13.out.lt
          have hza := hb.size
          have M_14 := grown_row M_a hg (fun g h => (HOF3.out g (.inr h)).1)
          have Z_14 := grown_row Z_a hg (fun g h => (HOF3.out g (.inr h)).2)
          have G_14 : MillGot w.heap.size w14 _ _ _ _ { x with low := x.low ++ [0] } := grow_low G_a (by rw [flatI_append, List.length_append]; exact own2) hg (by simpa using hn)
          have hb2 : Below w.heap.size (w13.alloc (.cells (flatI [0]).toArray 3)) w14 := Below.growE hg G_a.lo (Nat.le_refl _) (by omega)
          have HO14 := HOa.step hb2 (Nat.le_refl _)
          have HR14 := HRa.keep hb2 hlt
          have hz14 := hb2.size
          obtain ⟨ao14, cap14, rfl, -, -⟩ := own2.form
          have G_14 := hide G_14
          have HO14 := hide HO14
          have HR14 := hide HR14
          clear own2 hg hn hb hb2 M_a Z_a G_a HOa HRa
          have cT9 : w14.cell? ⟨w3.heap.size, 9, none⟩ = some (.slice al3 x.low.length cl3) := M_14.c 9 rfl
          have fcT9 := M_14.frozen 9
          obtain ⟨wv, hwv⟩ : ∃ u : World, u = w14.setCell ⟨w3.heap.size, 9, none⟩ (.slice ao14 (x.low.length + 1) cap14) := ⟨_, rfl⟩
          have T : Other w3.heap.size (w3.heap.size + 1) w14 wv := by rw [hwv]; exact Other.setCell (p := ⟨w3.heap.size, 9, none⟩) (Other.refl _ _ _) (Nat.le_refl _) (Nat.lt_succ_self _) _
          have M_v : RowL wv w3.heap.size 31 [.slice aS3 x.store.length cs3, .int .i64 x.rule.lc, .int .i64 x.rule.hc, .int .i64 x.rule.lm, .int .i64 x.rule.hm, .int .i64 x.rule.ls, .int .i64 x.rule.hs, .int .i64 x.strand, .slice ap3 x.pieces.length cp3, .slice ao14 (x.low.length + 1) cap14, .slice ah3 x.high.length ch3, .int .i64 x.scrap] := by rw [hwv]; exact M_14.set 9 _ (by simp [millC])
          have Z_v := Z_14.other T (by omega)
          have G_v := hide (G_14.out.past M_14 T)
          have HOv := hide (HO14.out.step (T.below (B := w.heap.size) (by omega) (by omega)) (Nat.le_refl _))
          have HRv := hide (HR14.out.keep (T.below (B := w.heap.size) (by omega) (by omega)) hlt)
          have hzv := T.size
          clear T
          have cZ0 : wv.cell? ⟨w.heap.size, 0, none⟩ = some (.slice none 0 0) := Z_v.c 0 rfl
          have cZ1 : wv.cell? ⟨w.heap.size, 1, none⟩ = some (.int .i64 0) := Z_v.c 1 rfl
          have cZ2 : wv.cell? ⟨w.heap.size, 2, none⟩ = some (.int .i64 0) := Z_v.c 2 rfl
          have cZ3 : wv.cell? ⟨w.heap.size, 3, none⟩ = some (.int .i64 0) := Z_v.c 3 rfl
          have cZ4 : wv.cell? ⟨w.heap.size, 4, none⟩ = some (.int .i64 0) := Z_v.c 4 rfl
          have cZ5 : wv.cell? ⟨w.heap.size, 5, none⟩ = some (.int .i64 0) := Z_v.c 5 rfl
          have cZ6 : wv.cell? ⟨w.heap.size, 6, none⟩ = some (.int .i64 0) := Z_v.c 6 rfl
          have cZ7 : wv.cell? ⟨w.heap.size, 7, none⟩ = some (.int .i64 0) := Z_v.c 7 rfl
          have cZ8 : wv.cell? ⟨w.heap.size, 8, none⟩ = some (.slice none 0 0) := Z_v.c 8 rfl
          have cZ9 : wv.cell? ⟨w.heap.size, 9, none⟩ = some (.slice none 0 0) := Z_v.c 9 rfl
          have cZ10 : wv.cell? ⟨w.heap.size, 10, none⟩ = some (.slice none 0 0) := Z_v.c 10 rfl
          have cZ11 : wv.cell? ⟨w.heap.size, 11, none⟩ = some (.int .i64 0) := Z_v.c 11 rfl
          have fcZ0 := Z_v.frozen 0
          have fcZ1 := Z_v.frozen 1
          have fcZ2 := Z_v.frozen 2
          have fcZ3 := Z_v.frozen 3
          have fcZ4 := Z_v.frozen 4
          have fcZ5 := Z_v.frozen 5
          have fcZ6 := Z_v.frozen 6
          have fcZ7 := Z_v.frozen 7
          have fcZ8 := Z_v.frozen 8
          have fcZ9 := Z_v.frozen 9
          have fcZ10 := Z_v.frozen 10
          have fcZ11 := Z_v.frozen 11
          have cC0 : wv.cell? ⟨w3.heap.size, 0, none⟩ = some (.slice aS3 x.store.length cs3) := M_v.c 0 rfl
          have cC1 : wv.cell? ⟨w3.heap.size, 1, none⟩ = some (.int .i64 x.rule.lc) := M_v.c 1 rfl
          have cC2 : wv.cell? ⟨w3.heap.size, 2, none⟩ = some (.int .i64 x.rule.hc) := M_v.c 2 rfl
          have cC3 : wv.cell? ⟨w3.heap.size, 3, none⟩ = some (.int .i64 x.rule.lm) := M_v.c 3 rfl
          have cC4 : wv.cell? ⟨w3.heap.size, 4, none⟩ = some (.int .i64 x.rule.hm) := M_v.c 4 rfl
          have cC5 : wv.cell? ⟨w3.heap.size, 5, none⟩ = some (.int .i64 x.rule.ls) := M_v.c 5 rfl
          have cC6 : wv.cell? ⟨w3.heap.size, 6, none⟩ = some (.int .i64 x.rule.hs) := M_v.c 6 rfl
          have cC7 : wv.cell? ⟨w3.heap.size, 7, none⟩ = some (.int .i64 x.strand) := M_v.c 7 rfl
          have cC8 : wv.cell? ⟨w3.heap.size, 8, none⟩ = some (.slice ap3 x.pieces.length cp3) := M_v.c 8 rfl
          have cC9 : wv.cell? ⟨w3.heap.size, 9, none⟩ = some (.slice ao14 (x.low.length + 1) cap14) := M_v.c 9 rfl
          have cC10 : wv.cell? ⟨w3.heap.size, 10, none⟩ = some (.slice ah3 x.high.length ch3) := M_v.c 10 rfl
          have cC11 : wv.cell? ⟨w3.heap.size, 11, none⟩ = some (.int .i64 x.scrap) := M_v.c 11 rfl
          go_upto_region 22 with fail
          rw [← hwv]
          clear hwv
          go_wp2_with fail
          refine bodyPost_ret (by simp [results, Tryz.results57, go_sem, cZ0, cZ1, cZ2, cZ3, cZ4, cZ5, cZ6, cZ7, cZ8, cZ9, cZ10, cZ11]; try rfl) rfl ?_
          have T := other12 w.heap.size wv (.slice aS3 x.store.length cs3) (.int .i64 x.rule.lc) (.int .i64 x.rule.hc) (.int .i64 x.rule.lm) (.int .i64 x.rule.hm) (.int .i64 x.rule.ls) (.int .i64 x.rule.hs) (.int .i64 x.strand) (.slice ap3 x.pieces.length cp3) (.slice ao14 (x.low.length + 1) cap14) (.slice ah3 x.high.length ch3) (.int .i64 x.scrap)
          exact ⟨_, _, _, _, { x with low := x.low ++ [0] }, rfl, G_v.out.past Z_v T, ⟨HF.out.few.p, by have := HF.out.l; simp; omega⟩, HOv.out.step (T.below (B := w.heap.size) (by omega) (by omega)) (Nat.le_refl _), (HRv.out.keep (T.below (B := w.heap.size) (by omega) (by omega)) hlt).mono (by omega)⟩
end Go.Proofs.YtmemgbklgcjobaaGreatDoor
