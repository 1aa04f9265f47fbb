/-
  Parts of the proofs over mills, of: MillOwn, Frame, App. Conditions: each theorem states its own.
-/
import Derived.Deep.AppendLies
import Derived.Deep.Fields
import Derived.Deep.RegionLaw
import Derived.Test.YtmemgbklgcjobaaGreatDoorY04
set_option linter.unusedSimpArgs false
set_option linter.unusedVariables false
set_option maxRecDepth 10000
set_option maxHeartbeats 64000000
namespace Go.Proofs.YtmemgbklgcjobaaGreatDoor
open Go.RowKit
theorem ownsRow_other {w w' : World} {base T sz lo hi n : Nat} {v : Value} {cs : List Value} (h : w.ownsRow base T sz v n cs) (k : Other lo hi w w') (hd : ∀ g, v.ownBlock = some g → g < lo ∨ hi ≤ g) : w'.ownsRow base T sz v n cs := by
 refine ⟨h.1, ?_⟩;rcases h.2 with h | ⟨g, cap, cur, e, h0, h1, r⟩
 ·exact .inl h
 ·refine .inr ⟨g, cap, cur, e, h0, ?_, r⟩
  have hlt := (Array.getElem?_eq_some_iff.1 h1).1;rw [k.block g hlt (hd g (by rw [e]; rfl))];exact h1
theorem ownsRow_below {w w' : World} {base T sz B n : Nat} {v : Value} {cs : List Value} (h : w.ownsRow base T sz v n cs) (k : Below B w w') (hB : w.heap.size ≤ B) : w'.ownsRow base T sz v n cs := by
 refine ⟨h.1, ?_⟩;rcases h.2 with h | ⟨g, cap, cur, e, h0, h1, r⟩
 ·exact .inl h
 ·refine .inr ⟨g, cap, cur, e, h0, ?_, r⟩
  have hlt := (Array.getElem?_eq_some_iff.1 h1).1;rw [k.block g (by omega)];exact h1
theorem ownsRow_mono {w : World} {base base' T sz n : Nat} {v : Value} {cs : List Value} (h : w.ownsRow base T sz v n cs) (hb : base' ≤ base) : w.ownsRow base' T sz v n cs := by
 refine ⟨h.1, ?_⟩;rcases h.2 with h | ⟨g, cap, cur, e, h0, h1, r⟩
 ·exact .inl h
 ·exact .inr ⟨g, cap, cur, e, by omega, h1, r⟩
theorem ownsRow_grown {w w' : World} {row : Option Nat} {base T sz n : Nat} {v : Value} {cs : List Value} (h : w.ownsRow base T sz v n cs) (hg : w.grownBy w' row) (hd : ∀ k, v.ownBlock = some k → some k ≠ row) : w'.ownsRow base T sz v n cs := by
 refine ⟨h.1, ?_⟩;rcases h.2 with h | ⟨g, cap, cur, e, h0, h1, r⟩
 ·exact .inl h
 ·refine .inr ⟨g, cap, cur, e, h0, ?_, r⟩
  have hlt := (Array.getElem?_eq_some_iff.1 h1).1;rw [hg.block g hlt (hd g (by rw [e]; rfl))];exact h1
theorem own_slice {w : World} {base T sz n : Nat} {v : Value} {cs : List Value} (h : w.ownsRow base T sz v n cs) : ∃ ao cap, v = .slice ao n cap ∧ n ≤ cap ∧ cap ≤ 9223372036854775807 := by
 rcases h.2 with ⟨rfl, rfl⟩ | ⟨g, cap, cur, e, _, _, h1, h2, _⟩
 ·exact ⟨none, 0, rfl, Nat.le_refl _, by omega⟩
 ·exact ⟨_, cap, e, h1, by unfold maxLen at h2; exact h2⟩
theorem adds (g i : Nat) : (⟨g, 0, none⟩ : Addr).add i = ⟨g, i, none⟩ := by unfold Addr.add; split <;> simp_all
theorem lit_cells (w : World) (cs : List Value) (T : Nat) : ∀ j u, cs[j]? = some u → (w.alloc (.cells cs.toArray T)).cell? ((⟨w.heap.size, 0, none⟩ : Addr).add j) = some u := by
 intro j u hu;rw [adds];have h := heap_alloc_new w (.cells cs.toArray T);unfold World.cell?;simp only [h];simpa using hu
theorem Other.step {lo hi B : Nat} {a b c : World} (h : Other lo hi a b) (k : Below B b c) (hB : a.heap.size ≤ B) : Other lo hi a c :=
 ⟨k.os.trans h.os, k.tape.trans h.tape, k.output.trans h.output, Nat.le_trans h.size k.size, fun i hi ho => (k.block i (by omega)).trans (h.block i hi ho)⟩
theorem Below.grow {base T sz n B : Nat} {w w' : World} {v : Value} {cs : List Value} (hg : w.grownBy w' v.ownBlock) (ho : w.ownsRow base T sz v n cs) (hb : B ≤ base) (hB : B ≤ w.heap.size) : Below B w w' :=
 (Below.refl _ _).grown hg hB fun k hk => Nat.le_trans hb (ho.lt k hk).1
def stL (x : St) : List Value := [.int .i64 x.c, .int .i64 x.m, .int .i64 x.s, .int .i64 x.p, .int .i64 x.k]
def flatS (xs : List St) : List Value := xs.flatMap stL
theorem flatS_len : ∀ xs : List St, (flatS xs).length = xs.length * 5
 | [] => rfl
 | x :: xs => by
  have := flatS_len xs;simp only [flatS, stL, List.flatMap_cons, List.length_append, List.length_cons, List.length_nil] at this ⊢;omega
theorem flatS_at : ∀ (xs : List St) (i : Nat) (h : i < xs.length), (flatS xs)[i * 5]? = some (.int .i64 xs[i].c) ∧ (flatS xs)[i * 5 + 1]? = some (.int .i64 xs[i].m) ∧ (flatS xs)[i * 5 + 2]? = some (.int .i64 xs[i].s) ∧ (flatS xs)[i * 5 + 3]? = some (.int .i64 xs[i].p) ∧ (flatS xs)[i * 5 + 4]? = some (.int .i64 xs[i].k)
 | x :: xs, 0, _ => ⟨rfl, rfl, rfl, rfl, rfl⟩
 | x :: xs, i + 1, h => by
  have := flatS_at xs i (by simpa using h);have e : flatS (x :: xs) = stL x ++ flatS xs := rfl;rw [e, show (i + 1) * 5 = i * 5 + 5 by omega, show i * 5 + 5 + 1 = i * 5 + 1 + 5 by omega, show i * 5 + 5 + 2 = i * 5 + 2 + 5 by omega, show i * 5 + 5 + 3 = i * 5 + 3 + 5 by omega, show i * 5 + 5 + 4 = i * 5 + 4 + 5 by omega];rw [List.getElem?_append_right (by simp [stL]), List.getElem?_append_right (by simp [stL]), List.getElem?_append_right (by simp [stL]), List.getElem?_append_right (by simp [stL]), List.getElem?_append_right (by simp [stL])];simpa [stL] using this
theorem flatS_one : ∀ (xs : List St), ∀ u ∈ flatS xs, u.oneCell' = true := by
 intro xs u hu;simp only [flatS, List.mem_flatMap] at hu;obtain ⟨x, _, hx⟩ := hu;simp [stL] at hx;rcases hx with rfl | rfl | rfl | rfl | rfl <;> rfl
theorem ownSt_at1 {w : World} {base n g cap : Nat} {xs : List St} (h : w.ownsRow base 65 5 (.slice (some ⟨g, 0, none⟩) n cap) n (flatS xs)) (hn : n = xs.length) : base ≤ g ∧ g < w.heap.size ∧ StAt g (g + 1) w (.slice (some ⟨g, 0, none⟩) n cap) xs := by
 subst hn;have hlt := h.lt g rfl;obtain ⟨ao, cap', e, h1, h2⟩ := own_slice h;simp only [Value.slice.injEq] at e;obtain ⟨-, -, rfl⟩ := e;refine ⟨hlt.1, hlt.2, some ⟨g, 0, none⟩, cap, rfl, h1, h2, hlt.2, fun _ => ⟨g, 0, rfl, Nat.le_refl _, Nat.lt_succ_self _, fun i hi => ?_⟩⟩;obtain ⟨f0, f1, f2, f3, f4⟩ := flatS_at xs i hi;have c := h.cells rfl;simp only [Nat.zero_add];refine ⟨⟨by have := c _ _ f0; rw [adds] at this; exact this, by have := c _ _ f1; rw [adds] at this; exact this, by have := c _ _ f2; rw [adds] at this; exact this, by have := c _ _ f3; rw [adds] at this; exact this, by have := c _ _ f4; rw [adds] at this; exact this⟩, h.frozenAt _, h.frozenAt _, h.frozenAt _, h.frozenAt _, h.frozenAt _⟩
theorem ownSt_one {w : World} {base n : Nat} {v : Value} {xs : List St} (h : w.ownsRow base 65 5 v n (flatS xs)) (hn : n = xs.length) (hb : base ≤ w.heap.size) :
 ∃ a z, base ≤ a ∧ a ≤ z ∧ z ≤ w.heap.size ∧ StAt a z w v xs ∧ z ≤ a + 1 ∧ ∀ k, a ≤ k → k < z → v.ownBlock = some k := by
 rcases id h.2 with ⟨rfl, h0⟩ | ⟨g, cap, cur, rfl, -, -, -, -, -, -⟩
 ·have : xs = [] := List.eq_nil_of_length_eq_zero (by omega)
  subst this;exact ⟨base, base, Nat.le_refl _, Nat.le_refl _, hb, StAt.nil _ _ _ _ _ (by omega) hb, by omega, fun k h1 h2 => by omega⟩
 ·obtain ⟨h1, h2, h3⟩ := ownSt_at1 h hn
  exact ⟨g, g + 1, h1, by omega, h2, h3, Nat.le_refl _, fun k k1 k2 => by show some g = some k; rw [show g = k by omega]⟩
theorem ownSt_at {w : World} {base n : Nat} {v : Value} {xs : List St} (h : w.ownsRow base 65 5 v n (flatS xs)) (hn : n = xs.length) (hb : base ≤ w.heap.size) : StAt base w.heap.size w v xs := by
 obtain ⟨a, z, h1, h2, h3, h4, -⟩ := ownSt_one h hn hb;exact h4.mono h1 h3 nl
def pcL (x : Pc) : List Value := [.int .i64 x.l, .int .i64 x.s]
def flatP (xs : List Pc) : List Value := xs.flatMap pcL
theorem flatP_len : ∀ xs : List Pc, (flatP xs).length = xs.length * 2
 | [] => rfl
 | x :: xs => by
  have := flatP_len xs;simp only [flatP, pcL, List.flatMap_cons, List.length_append, List.length_cons, List.length_nil] at this ⊢;omega
theorem flatP_at : ∀ (xs : List Pc) (i : Nat) (h : i < xs.length), (flatP xs)[i * 2]? = some (.int .i64 xs[i].l) ∧ (flatP xs)[i * 2 + 1]? = some (.int .i64 xs[i].s)
 | x :: xs, 0, _ => ⟨rfl, rfl⟩
 | x :: xs, i + 1, h => by
  have := flatP_at xs i (by simpa using h);have e : flatP (x :: xs) = pcL x ++ flatP xs := rfl;rw [e, show (i + 1) * 2 = i * 2 + 2 by omega, show i * 2 + 2 + 1 = i * 2 + 1 + 2 by omega];rw [List.getElem?_append_right (by simp [pcL]), List.getElem?_append_right (by simp [pcL])];simpa [pcL] using this
theorem flatP_one : ∀ (xs : List Pc), ∀ u ∈ flatP xs, u.oneCell' = true := by
 intro xs u hu;simp only [flatP, List.mem_flatMap] at hu;obtain ⟨x, _, hx⟩ := hu;simp [pcL] at hx;rcases hx with rfl | rfl <;> rfl
theorem ownPc_at1 {w : World} {base n g cap : Nat} {xs : List Pc} (h : w.ownsRow base 73 2 (.slice (some ⟨g, 0, none⟩) n cap) n (flatP xs)) (hn : n = xs.length) : base ≤ g ∧ g < w.heap.size ∧ PcAt g (g + 1) w (.slice (some ⟨g, 0, none⟩) n cap) xs := by
 subst hn;have hlt := h.lt g rfl;obtain ⟨ao, cap', e, h1, h2⟩ := own_slice h;simp only [Value.slice.injEq] at e;obtain ⟨-, -, rfl⟩ := e;refine ⟨hlt.1, hlt.2, some ⟨g, 0, none⟩, cap, rfl, h1, h2, hlt.2, fun _ => ⟨g, 0, rfl, Nat.le_refl _, Nat.lt_succ_self _, fun i hi => ?_⟩⟩;obtain ⟨f0, f1⟩ := flatP_at xs i hi;have c := h.cells rfl;simp only [Nat.zero_add];refine ⟨⟨by have := c _ _ f0; rw [adds] at this; exact this, by have := c _ _ f1; rw [adds] at this; exact this⟩, h.frozenAt _, h.frozenAt _⟩
theorem ownPc_one {w : World} {base n : Nat} {v : Value} {xs : List Pc} (h : w.ownsRow base 73 2 v n (flatP xs)) (hn : n = xs.length) (hb : base ≤ w.heap.size) :
 ∃ a z, base ≤ a ∧ a ≤ z ∧ z ≤ w.heap.size ∧ PcAt a z w v xs ∧ z ≤ a + 1 ∧ ∀ k, a ≤ k → k < z → v.ownBlock = some k := by
 rcases id h.2 with ⟨rfl, h0⟩ | ⟨g, cap, cur, rfl, -, -, -, -, -, -⟩
 ·have : xs = [] := List.eq_nil_of_length_eq_zero (by omega)
  subst this;exact ⟨base, base, Nat.le_refl _, Nat.le_refl _, hb, PcAt.nil _ _ _ _ _ (by omega) hb, by omega, fun k h1 h2 => by omega⟩
 ·obtain ⟨h1, h2, h3⟩ := ownPc_at1 h hn
  exact ⟨g, g + 1, h1, by omega, h2, h3, Nat.le_refl _, fun k k1 k2 => by show some g = some k; rw [show g = k by omega]⟩
theorem ownPc_at {w : World} {base n : Nat} {v : Value} {xs : List Pc} (h : w.ownsRow base 73 2 v n (flatP xs)) (hn : n = xs.length) (hb : base ≤ w.heap.size) : PcAt base w.heap.size w v xs := by
 obtain ⟨a, z, h1, h2, h3, h4, -⟩ := ownPc_one h hn hb;exact h4.mono h1 h3 nl
def flatI (xs : List Int) : List Value := xs.map (Value.int .i64)
theorem flatI_one (xs : List Int) : ∀ u ∈ flatI xs, u.oneCell' = true := by
 intro u hu;obtain ⟨y, _, rfl⟩ := List.mem_map.1 hu;rfl
theorem ownI_at1 {w : World} {base n g cap : Nat} {xs : List Int} (h : w.ownsRow base 3 1 (.slice (some ⟨g, 0, none⟩) n cap) n (flatI xs)) (hn : n = xs.length) : base ≤ g ∧ g < w.heap.size ∧ IntsAt g (g + 1) w (.slice (some ⟨g, 0, none⟩) n cap) xs := by
 subst hn;have hlt := h.lt g rfl;obtain ⟨ao, cap', e, h1, h2⟩ := own_slice h;simp only [Value.slice.injEq] at e;obtain ⟨-, -, rfl⟩ := e;refine ⟨hlt.1, hlt.2, some ⟨g, 0, none⟩, cap, rfl, h1, h2, hlt.2, fun _ => ⟨g, 0, rfl, Nat.le_refl _, Nat.lt_succ_self _, fun i hi => ?_⟩⟩;have c := h.cells rfl i (.int .i64 xs[i]) (by simp [flatI, hi]);rw [adds] at c;rw [Nat.zero_add];exact ⟨c, h.frozenAt _⟩
theorem IntsAt.none (lo hi : Nat) (w : World) (ao : Option Addr) (cap : Nat) (hc : cap ≤ 9223372036854775807) (h : hi ≤ w.heap.size) : IntsAt lo hi w (.slice ao 0 cap) [] :=
 ⟨ao, cap, rfl, Nat.zero_le _, hc, h, fun h => absurd h (Nat.not_lt_zero _)⟩
theorem ownI_one {w : World} {base n : Nat} {v : Value} {xs : List Int} (h : w.ownsRow base 3 1 v n (flatI xs)) (hn : n = xs.length) (hb : base ≤ w.heap.size) :
 ∃ a z, base ≤ a ∧ a ≤ z ∧ z ≤ w.heap.size ∧ IntsAt a z w v xs ∧ z ≤ a + 1 ∧ ∀ k, a ≤ k → k < z → v.ownBlock = some k := by
 rcases id h.2 with ⟨rfl, h0⟩ | ⟨g, cap, cur, rfl, -, -, -, -, -, -⟩
 ·have : xs = [] := List.eq_nil_of_length_eq_zero (by omega)
  subst this;exact ⟨base, base, Nat.le_refl _, Nat.le_refl _, hb, IntsAt.none _ _ _ _ _ (by omega) hb, by omega, fun k h1 h2 => by omega⟩
 ·obtain ⟨h1, h2, h3⟩ := ownI_at1 h hn
  exact ⟨g, g + 1, h1, by omega, h2, h3, Nat.le_refl _, fun k k1 k2 => by show some g = some k; rw [show g = k by omega]⟩
theorem ownI_at {w : World} {base n : Nat} {v : Value} {xs : List Int} (h : w.ownsRow base 3 1 v n (flatI xs)) (hn : n = xs.length) (hb : base ≤ w.heap.size) : IntsAt base w.heap.size w v xs := by
 obtain ⟨a, z, h1, h2, h3, h4, -⟩ := ownI_one h hn hb;exact h4.mono h1 h3 nl
def pileV (l h : Value) : Value := .agg #[l, h]
def millV (s p l h : Value) (m : Mi) : Value :=
 .agg #[s, .int .i64 m.rule.lc, .int .i64 m.rule.hc, .int .i64 m.rule.lm, .int .i64 m.rule.hm, .int .i64 m.rule.ls, .int .i64 m.rule.hs, .int .i64 m.strand, p, l, h, .int .i64 m.scrap]
structure MillIn (lo hi : Nat) (w : World) (s p l h : Value) (m : Mi) : Prop where
 store : StAt lo hi w s m.store
 pieces : PcAt lo hi w p m.pieces
 low : IntsAt lo hi w l m.low
 high : IntsAt lo hi w h m.high
theorem MillIn.below {lo hi : Nat} {w w' : World} {s p l h : Value} {m : Mi} (H : MillIn lo hi w s p l h m) (k : Below w.heap.size w w') : MillIn lo hi w' s p l h m :=
 ⟨H.store.below k, H.pieces.below k, H.low.below k, H.high.below k⟩
theorem MillIn.other {lo hi a z : Nat} {w w' : World} {s p l h : Value} {m : Mi} (H : MillIn lo hi w s p l h m) (k : Other a z w w') (hd : hi ≤ a ∨ z ≤ lo) : MillIn lo hi w' s p l h m :=
 ⟨H.store.other k hd, H.pieces.other k hd, H.low.other k hd, H.high.other k hd⟩
theorem MillIn.mono {lo hi lo' hi' : Nat} {w : World} {s p l h : Value} {m : Mi} (H : MillIn lo hi w s p l h m) (h1 : lo' ≤ lo) (h2 : hi ≤ hi') (h3 : hi' ≤ w.heap.size) : MillIn lo' hi' w s p l h m :=
 ⟨H.store.mono h1 h2 h3, H.pieces.mono h1 h2 h3, H.low.mono h1 h2 h3, H.high.mono h1 h2 h3⟩
theorem MillIn.drew {lo hi : Nat} {w : World} {s p l h : Value} {m : Mi} (H : MillIn lo hi w s p l h m) : MillIn lo hi w.drew s p l h m :=
 H.below (Below.refl _ _).drew
theorem MillIn.all {lo hi : Nat} {w : World} {s p l h : Value} {m : Mi} (H : MillIn lo hi w s p l h m) : MillIn 0 w.heap.size w s p l h m :=
 H.mono (Nat.zero_le _) H.store.lt nl
def Apart (u v : Value) : Prop := ∀ k, u.ownBlock = some k → v.ownBlock ≠ some k
theorem Apart.symm {u v : Value} (h : Apart u v) : Apart v u := fun k h1 h2 => h k h2 h1
structure MillOwn (base : Nat) (w : World) (s p l h : Value) (m : Mi) : Prop where
 hb : base ≤ w.heap.size
 so : w.ownsRow base 65 5 s m.store.length (flatS m.store)
 po : w.ownsRow base 73 2 p m.pieces.length (flatP m.pieces)
 lo : w.ownsRow base 3 1 l m.low.length (flatI m.low)
 ho : w.ownsRow base 3 1 h m.high.length (flatI m.high)
 sp : Apart s p
 sl : Apart s l
 sh : Apart s h
 pl : Apart p l
 ph : Apart p h
 lh : Apart l h
theorem MillOwn.at {base : Nat} {w : World} {s p l h : Value} {m : Mi} (H : MillOwn base w s p l h m) : MillIn base w.heap.size w s p l h m :=
 ⟨ownSt_at H.so rfl H.hb, ownPc_at H.po rfl H.hb, ownI_at H.lo rfl H.hb, ownI_at H.ho rfl H.hb⟩
theorem MillOwn.below {base B : Nat} {w w' : World} {s p l h : Value} {m : Mi} (H : MillOwn base w s p l h m) (k : Below B w w') (hB : w.heap.size ≤ B) : MillOwn base w' s p l h m :=
 ⟨Nat.le_trans H.hb k.size, ownsRow_below H.so k hB, ownsRow_below H.po k hB, ownsRow_below H.lo k hB, ownsRow_below H.ho k hB, H.sp, H.sl, H.sh, H.pl, H.ph, H.lh⟩
theorem MillOwn.other {base a z : Nat} {w w' : World} {s p l h : Value} {m : Mi} (H : MillOwn base w s p l h m) (k : Other a z w w') (hd : z ≤ base) : MillOwn base w' s p l h m := by
 have hd' : ∀ {T sz n : Nat} {v : Value} {cs : List Value}, w.ownsRow base T sz v n cs → ∀ g, v.ownBlock = some g → g < a ∨ z ≤ g := fun ho g hg => by
  have := (ho.lt g hg).1; omega
 exact ⟨Nat.le_trans H.hb k.size, ownsRow_other H.so k (hd' H.so), ownsRow_other H.po k (hd' H.po), ownsRow_other H.lo k (hd' H.lo), ownsRow_other H.ho k (hd' H.ho), H.sp, H.sl, H.sh, H.pl, H.ph, H.lh⟩
theorem MillOwn.mono {base base' : Nat} {w : World} {s p l h : Value} {m : Mi} (H : MillOwn base w s p l h m) (hb : base' ≤ base) : MillOwn base' w s p l h m :=
 ⟨Nat.le_trans hb H.hb, ownsRow_mono H.so hb, ownsRow_mono H.po hb, ownsRow_mono H.lo hb, ownsRow_mono H.ho hb, H.sp, H.sl, H.sh, H.pl, H.ph, H.lh⟩
theorem apart_new {w w' : World} {base B T T' sz sz' n n' : Nat} {u v : Value} {cs cs' : List Value} (h : w.ownsRow base T sz u n cs) (h' : w'.ownsRow B T' sz' v n' cs') (hB : w.heap.size ≤ B) : Apart u v := fun k h1 h2 => by
 have a := (h.lt k h1).2;have b := (h'.lt k h2).1;omega
theorem apart_nil (v : Value) (c : Nat) : Apart (.slice none 0 c) v := fun k h1 => by simp [Value.ownBlock] at h1
theorem MillOwn.store {base B : Nat} {w w' : World} {s s' p l h : Value} {m : Mi} {xs : List St} (H : MillOwn base w s p l h m) (k : Below B w w') (hB : w.heap.size ≤ B) (hb : base ≤ B) (n : w'.ownsRow B 65 5 s' xs.length (flatS xs)) (y : Int) :
 MillOwn base w' s' p l h { m with store := xs, strand := y } :=
 ⟨Nat.le_trans H.hb k.size, ownsRow_mono n hb, ownsRow_below H.po k hB, ownsRow_below H.lo k hB, ownsRow_below H.ho k hB, (apart_new H.po n hB).symm, (apart_new H.lo n hB).symm, (apart_new H.ho n hB).symm, H.pl, H.ph, H.lh⟩
theorem MillOwn.yard {base B : Nat} {w w' : World} {s p l h l' h' : Value} {m : Mi} {xs ys : List Int} (H : MillOwn base w s p l h m) (k : Below B w w') (hB : w.heap.size ≤ B) (hb : base ≤ B)
 (n : w'.ownsRow B 3 1 l' xs.length (flatI xs)) (n' : w'.ownsRow B 3 1 h' ys.length (flatI ys)) (ha : Apart l' h') : MillOwn base w' s p l' h' { m with low := xs, high := ys } :=
 ⟨Nat.le_trans H.hb k.size, ownsRow_below H.so k hB, ownsRow_below H.po k hB, ownsRow_mono n hb, ownsRow_mono n' hb, H.sp, apart_new H.so n hB, apart_new H.so n' hB, apart_new H.po n hB, apart_new H.po n' hB, ha⟩
theorem MillOwn.nums {base : Nat} {w : World} {s p l h : Value} {m : Mi} (H : MillOwn base w s p l h m) (r : Gr) (x y : Int) : MillOwn base w s p l h { m with rule := r, strand := x, scrap := y } :=
 ⟨H.hb, H.so, H.po, H.lo, H.ho, H.sp, H.sl, H.sh, H.pl, H.ph, H.lh⟩
def MillSep (lo hi : Nat) (w : World) (s p l h : Value) (m : Mi) : Prop :=
 ∃ a1 z1 a2 z2 a3 z3 a4 z4 : Nat, (lo ≤ a1 ∧ z1 ≤ hi) ∧ (lo ≤ a2 ∧ z2 ≤ hi) ∧ (lo ≤ a3 ∧ z3 ≤ hi) ∧ (lo ≤ a4 ∧ z4 ≤ hi) ∧
  ((z1 ≤ a2 ∨ z2 ≤ a1) ∧ (z1 ≤ a3 ∨ z3 ≤ a1) ∧ (z1 ≤ a4 ∨ z4 ≤ a1) ∧ (z2 ≤ a3 ∨ z3 ≤ a2) ∧ (z2 ≤ a4 ∨ z4 ≤ a2) ∧ (z3 ≤ a4 ∨ z4 ≤ a3)) ∧
  StAt a1 z1 w s m.store ∧ PcAt a2 z2 w p m.pieces ∧ IntsAt a3 z3 w l m.low ∧ IntsAt a4 z4 w h m.high ∧ hi ≤ w.heap.size
theorem MillSep.in {lo hi : Nat} {w : World} {s p l h : Value} {m : Mi} (H : MillSep lo hi w s p l h m) : MillIn lo hi w s p l h m := by
 obtain ⟨a1, z1, a2, z2, a3, z3, a4, z4, ⟨b1, c1⟩, ⟨b2, c2⟩, ⟨b3, c3⟩, ⟨b4, c4⟩, -, h1, h2, h3, h4, h5⟩ := H;exact ⟨h1.mono b1 c1 h5, h2.mono b2 c2 h5, h3.mono b3 c3 h5, h4.mono b4 c4 h5⟩
theorem MillSep.below {lo hi : Nat} {w w' : World} {s p l h : Value} {m : Mi} (H : MillSep lo hi w s p l h m) (k : Below w.heap.size w w') : MillSep lo hi w' s p l h m := by
 obtain ⟨a1, z1, a2, z2, a3, z3, a4, z4, q1, q2, q3, q4, d, h1, h2, h3, h4, h5⟩ := H;exact ⟨a1, z1, a2, z2, a3, z3, a4, z4, q1, q2, q3, q4, d, h1.below k, h2.below k, h3.below k, h4.below k, Nat.le_trans h5 k.size⟩
theorem MillSep.other {lo hi a z : Nat} {w w' : World} {s p l h : Value} {m : Mi} (H : MillSep lo hi w s p l h m) (k : Other a z w w') (hd : hi ≤ a ∨ z ≤ lo) : MillSep lo hi w' s p l h m := by
 obtain ⟨a1, z1, a2, z2, a3, z3, a4, z4, q1, q2, q3, q4, d, h1, h2, h3, h4, h5⟩ := H;exact ⟨a1, z1, a2, z2, a3, z3, a4, z4, q1, q2, q3, q4, d, h1.other k (by omega), h2.other k (by omega), h3.other k (by omega), h4.other k (by omega), Nat.le_trans h5 k.size⟩
theorem sep_of {u v : Value} (ha : Apart u v) {a z b y : Nat} (h1 : ∀ k, a ≤ k → k < z → u.ownBlock = some k) (h2 : ∀ k, b ≤ k → k < y → v.ownBlock = some k) (h3 : a ≤ z) (h4 : b ≤ y) (h5 : z ≤ a + 1) (h6 : y ≤ b + 1) : z ≤ b ∨ y ≤ a := by
 rcases Nat.lt_or_ge b z with h | h
 ·rcases Nat.lt_or_ge a y with h' | h'
  ·rcases Nat.lt_or_ge a z with h7 | h7
   ·rcases Nat.lt_or_ge b y with h8 | h8
    ·have : a = b := by omega
     subst this;exact absurd (h2 a nl h8) (ha a (h1 a nl h7))
    ·omega
   ·omega
  ·exact .inr h'
 ·exact .inl h
theorem MillOwn.sep {base : Nat} {w : World} {s p l h : Value} {m : Mi} (H : MillOwn base w s p l h m) : MillSep base w.heap.size w s p l h m := by
 obtain ⟨a1, z1, b1, c1, d1, e1, f1, g1⟩ := ownSt_one H.so rfl H.hb;obtain ⟨a2, z2, b2, c2, d2, e2, f2, g2⟩ := ownPc_one H.po rfl H.hb;obtain ⟨a3, z3, b3, c3, d3, e3, f3, g3⟩ := ownI_one H.lo rfl H.hb;obtain ⟨a4, z4, b4, c4, d4, e4, f4, g4⟩ := ownI_one H.ho rfl H.hb;exact ⟨a1, z1, a2, z2, a3, z3, a4, z4, ⟨b1, d1⟩, ⟨b2, d2⟩, ⟨b3, d3⟩, ⟨b4, d4⟩, ⟨sep_of H.sp g1 g2 c1 c2 f1 f2, sep_of H.sl g1 g3 c1 c3 f1 f3, sep_of H.sh g1 g4 c1 c4 f1 f4, sep_of H.pl g2 g3 c2 c3 f2 f3, sep_of H.ph g2 g4 c2 c4 f2 f4, sep_of H.lh g3 g4 c3 c4 f3 f4⟩, e1, e2, e3, e4, Nat.le_refl _⟩
end Go.Proofs.YtmemgbklgcjobaaGreatDoor
namespace Go.Proofs.YtmemgbklgcjobaaGreatDoor
open Go.ChangeShapes Go.WideShapes Go.Deep Go.RowKit
section
variable {H : Type} {enc : TypeId × Value → H} {P : Program}
theorem trodAll_stays {W W' : World} (hl : laidOutB P = true) (hb : Below W.heap.size W W') (sp : Nat → Bool) :
 ∀ {ts : List TypeId} {vs : List Value} {ds : List (DataW H)} {ps : List MemPlace}, (∀ t ∈ ts, P.readableRec t = true ∧ t < P.types.size) →
  DataW.TrodAll enc P W 0 (fun _ => true) true ts vs ds ps → (∀ x ∈ ps, x.block < W.heap.size) → (∀ x ∈ ps, sp x.block = true) → DataW.TrodAll enc P W' 0 sp true ts vs ds ps
 | [], _, _, _, _, h, _, _ => by
  obtain ⟨rfl, rfl, rfl⟩ := trodAll_nil h;exact trodAll_mk0
 | t :: ts, _, _, _, hts, h, hlt, hsp => by
  obtain ⟨v, vs, d, ds, p, q, rfl, rfl, rfl, h1, h2⟩ := trodAll_cons h;obtain ⟨r1, r2⟩ := hts t (by simp);refine trodAll_cons_mk (WideElems.Trod_stays hl r1 r2 h1 (fun x hx => hb.same (hlt x (List.mem_append_left _ hx))) (fun x hx => hsp x (List.mem_append_left _ hx))) ?_;exact trodAll_stays hl hb sp (fun t ht => hts t (List.mem_cons_of_mem _ ht)) h2 (fun x hx => hlt x (List.mem_append_right _ hx)) (fun x hx => hsp x (List.mem_append_right _ hx))
theorem cell_spot {w : World} {a : Addr} {v : Value} (h : w.cell? a = some v) : a.spot = none ∧ a.block < w.heap.size := by
 unfold World.cell? at h;split at h
 ·rename_i c e m hb
  refine ⟨?_, ?_⟩
  ·cases hs : a.spot with
   | none => rfl
   | some s => simp [hs] at h
  ·obtain ⟨hlt, _⟩ := Array.getElem?_eq_some_iff.1 hb
   exact hlt
 ·cases h
end
end Go.Proofs.YtmemgbklgcjobaaGreatDoor
namespace Go.Proofs.YtmemgbklgcjobaaGreatDoor
open Go.ChangeShapes Go.WideShapes Go.Deep Go.RowKit
theorem and2 {a b : Bool} (h1 : a = true) (h2 : b = true) : (a && b) = true := by rw [h1, h2]; rfl
theorem joined_of {P : Program} {f : FuncId} {fn : Func} {s : ChangeSpec} {c : OpenClaim}
 (a : (c.wf (OpenSpec.ofChange s) && laidOutB P && mapsRowed P && fn.params.all (P.readableRec ·) && namedTie P c.named s.vars && (c.stops == []) && (P.stops == []) && (c.knobs == []) && (P.stopKnobs == [])) = true)
 (b1 : (c.inPlace == P.inPlace f) = true) (b2 : (c.unfollowed == P.unfollowed f) = true) (b3 : (c.recurses == P.recurses f) = true) (b4 : (c.named == P.varsNamed f) = true)
 (d1 : ((c.maps == (fn.params.toList ++ s.plain.varTypes P).any (P.mapsRec ·)) && (c.ifaces == (fn.params.toList ++ s.plain.varTypes P).any (P.ifacesRec ·)) && (c.mapsOut == P.mapsAmong fn.resultTypes.toList) &&
   (c.loops == (fn.params.toList ++ s.plain.varTypes P).any (P.loopsFrom ·)) && (c.wideKeys == (fn.params.toList ++ s.plain.varTypes P ++ fn.resultTypes.toList).any (P.wideKeysFrom ·))) = true)
 (d2 : (s.vars.all (P.varReadable ·) && fn.resultTypes.all (fun t => P.readableRec t && decide (t < P.types.size)) && (c.ifacesOut == fn.resultTypes.toList.any (P.ifacesRec ·)) && (c.loopsOut == fn.resultTypes.toList.any (P.loopsFrom ·)) && (c.plainKeys == P.plainKeys) && c.shortTexts.isNone && P.stopsHeard) = true)
 (may : P.mayEnter = true) (lifts : (c.lifted == P.liftsFinal) = true) (make : (P.make == some c.make) = true)
 (e : ((c.kinds == (if c.domain.isEmpty then [] else fn.params.toList.map fun t => match P.underlying t with | some (.int k) => some k | _ => none)) && (c.pinned == c.pinnedBy) &&
   (c.veiled == (fn.params.toList ++ s.plain.varTypes P ++ fn.resultTypes.toList).any (P.veiledRec ·)) && c.veiledFits P fn.params.toList (fn.params.toList ++ s.plain.varTypes P ++ fn.resultTypes.toList)) = true) :
 joinedFacts P f fn s c = true := by
 unfold joinedFacts;rw [Bool.and_eq_true, Bool.and_eq_true, Bool.and_eq_true] at e;obtain ⟨⟨⟨e1, e2⟩, e3⟩, e4⟩ := e;rw [Bool.and_eq_true, Bool.and_eq_true, Bool.and_eq_true, Bool.and_eq_true] at d1;obtain ⟨⟨⟨⟨d11, d12⟩, d13⟩, d14⟩, d15⟩ := d1;rw [Bool.and_eq_true, Bool.and_eq_true, Bool.and_eq_true, Bool.and_eq_true, Bool.and_eq_true, Bool.and_eq_true] at d2;obtain ⟨⟨⟨⟨⟨⟨d21, d22⟩, d23⟩, d24⟩, d25⟩, d26⟩, d27⟩ := d2;exact and2 (and2 (and2 (and2 (and2 (and2 (and2 (and2 (and2 (and2 (and2 (and2 (and2 (and2 (and2 (and2 (and2 (and2 (and2 (and2 (and2 (and2 (and2 a b1) b2) b3) b4) d11) d12) d13) d14) d15) d21) d22) d23) d24) d25) d26) d27) may) lifts) make) e1) e2) e3) e4
end Go.Proofs.YtmemgbklgcjobaaGreatDoor
namespace Go.Proofs.YtmemgbklgcjobaaGreatDoor
open Go.RowKit
structure Source (w : World) (size : Nat) (x : Value) (m : Nat) (news : List Value) : Prop where
 val : ∃ ao c, x = .slice ao m c ∧ (ao = none → m = 0) ∧ ∀ ad, ao = some ad → ∀ j u, news[j]? = some u → w.cell? (ad.add j) = some u
 len : news.length = m * size
 one : ∀ u ∈ news, u.oneCell' = true
theorem addo (b o i : Nat) : (⟨b, o, none⟩ : Addr).add i = ⟨b, o + i, none⟩ := by
 unfold Addr.add;split
 ·next h => subst h; rfl
 ·rfl
theorem Source.below {w w' : World} {size m B : Nat} {x : Value} {news : List Value} (h : Source w size x m news) (k : Below B w w') (hB : w.heap.size ≤ B) : Source w' size x m news := by
 obtain ⟨⟨ao, c, rfl, h1, h2⟩, h3, h4⟩ := h;refine ⟨⟨ao, c, rfl, h1, fun ad ha j u hu => ?_⟩, h3, h4⟩;have hc := h2 ad ha j u hu;have hlt := (cell_spot hc).2;rw [World.cell?_of_block (w := w) (k.block _ (by omega))];exact hc
theorem IntsAt.source {lo hi : Nat} {w : World} {v : Value} {xs : List Int} (h : IntsAt lo hi w v xs) : Source w 1 v xs.length (flatI xs) := by
 obtain ⟨ao, cap, rfl, h1, h2, h3, h4⟩ := h;refine ⟨⟨ao, cap, rfl, fun e => ?_, fun ad ha j u hu => ?_⟩, by simp [flatI], flatI_one xs⟩
 ·apply Classical.byContradiction
  intro hn;obtain ⟨b, o, e', _⟩ := h4 (by omega);rw [e] at e'; cases e'
 ·have hj : j < xs.length := by
   have := (List.getElem?_eq_some_iff.1 hu).1;simpa [flatI] using this
  obtain ⟨b, o, e', _, _, hc⟩ := h4 (by omega);rw [ha] at e';obtain rfl := Option.some.inj e';rw [addo, (hc j hj).1];simp only [flatI, List.getElem?_map, List.getElem?_eq_getElem hj, Option.map_some, Option.some.injEq] at hu;rw [hu]
theorem StAt.source {lo hi : Nat} {w : World} {v : Value} {xs : List St} (h : StAt lo hi w v xs) : Source w 5 v xs.length (flatS xs) := by
 obtain ⟨ao, cap, rfl, h1, h2, h3, h4⟩ := h;refine ⟨⟨ao, cap, rfl, fun e => ?_, fun ad ha j u hu => ?_⟩, flatS_len xs, flatS_one xs⟩
 ·apply Classical.byContradiction
  intro hn;obtain ⟨b, o, e', _⟩ := h4 (by omega);rw [e] at e'; cases e'
 ·have hj : j < xs.length * 5 := by
   have := (List.getElem?_eq_some_iff.1 hu).1
   rwa [flatS_len] at this
  obtain ⟨b, o, e', _, _, hc⟩ := h4 (by omega);rw [ha] at e';obtain rfl := Option.some.inj e';have hi : j / 5 < xs.length := by omega
  obtain ⟨⟨c0, c1, c2, c3, c4⟩, -⟩ := hc (j / 5) hi;obtain ⟨f0, f1, f2, f3, f4⟩ := flatS_at xs (j / 5) hi;rw [addo];have hr : j = j / 5 * 5 ∨ j = j / 5 * 5 + 1 ∨ j = j / 5 * 5 + 2 ∨ j = j / 5 * 5 + 3 ∨ j = j / 5 * 5 + 4 := by omega
  generalize j / 5 = i at *;rcases hr with rfl | rfl | rfl | rfl | rfl
  ·rw [c0, ← f0, hu]
  ·rw [← Nat.add_assoc, c1, ← f1, hu]
  ·rw [← Nat.add_assoc, c2, ← f2, hu]
  ·rw [← Nat.add_assoc, c3, ← f3, hu]
  ·rw [← Nat.add_assoc, c4, ← f4, hu]
theorem PcAt.source {lo hi : Nat} {w : World} {v : Value} {xs : List Pc} (h : PcAt lo hi w v xs) : Source w 2 v xs.length (flatP xs) := by
 obtain ⟨ao, cap, rfl, h1, h2, h3, h4⟩ := h;refine ⟨⟨ao, cap, rfl, fun e => ?_, fun ad ha j u hu => ?_⟩, flatP_len xs, flatP_one xs⟩
 ·apply Classical.byContradiction
  intro hn;obtain ⟨b, o, e', _⟩ := h4 (by omega);rw [e] at e'; cases e'
 ·have hj : j < xs.length * 2 := by
   have := (List.getElem?_eq_some_iff.1 hu).1
   rwa [flatP_len] at this
  obtain ⟨b, o, e', _, _, hc⟩ := h4 (by omega);rw [ha] at e';obtain rfl := Option.some.inj e';have hi : j / 2 < xs.length := by omega
  obtain ⟨⟨c0, c1⟩, -⟩ := hc (j / 2) hi;obtain ⟨f0, f1⟩ := flatP_at xs (j / 2) hi;rw [addo];have hr : j = j / 2 * 2 ∨ j = j / 2 * 2 + 1 := by omega
  generalize j / 2 = i at *;rcases hr with rfl | rfl
  ·rw [c0, ← f0, hu]
  ·rw [← Nat.add_assoc, c1, ← f1, hu]
theorem Source.lit (w : World) (cs : List Value) (size T m : Nat) (hl : cs.length = m * size) (h1 : ∀ u ∈ cs, u.oneCell' = true) (c : Nat) : Source (w.alloc (.cells cs.toArray T)) size (.slice (some ⟨w.heap.size, 0, none⟩) m c) m cs :=
 ⟨⟨_, c, rfl, (fun e => by cases e), (fun ad ha j u hu => by
  obtain rfl := Option.some.inj ha;exact lit_cells w cs T j u hu)⟩, hl, h1⟩
end Go.Proofs.YtmemgbklgcjobaaGreatDoor
namespace Go.Proofs.YtmemgbklgcjobaaGreatDoor
open Go.RowKit
section
variable {P : Program} {w : World}
theorem run_append_view (base : Nat) (t ty e : TypeId) (i : TypeInfo) (z : Value) (size bytes : Nat) (ht : P.underlying t = some (.slice e)) (hi : P.info? e = some i) (hz : i.zero = some z)
 (hsize : i.size = size) (hby : i.bytes = bytes) (hzs : z.cells.size = size) (hsz : 0 < size)
 (v : Value) (n : Nat) (xs : List Value) (hown : w.ownsRow base e size v n xs) (x : Value) (m : Nat) (news : List Value) (hx : Source w size x m news)
 (h63 : n + m ≤ maxLen) (hbytes : (n + m) * bytes ≤ 140737488355328) (hbase : base ≤ w.heap.size) :
 ∃ v' w', (Builtin.append_ #[t, t] ty #[v, x]).run P w = .ok v' w' ∧ w'.ownsRow base e size v' (n + m) (xs ++ news) ∧ w.grownBy w' v.ownBlock ∧
  (v'.ownBlock = v.ownBlock ∨ v'.ownBlock = some w.heap.size) := by
 obtain ⟨⟨ao, c, rfl, h1, h2⟩, hl, ho⟩ := hx;cases ao with
 | some ad =>
  obtain ⟨v', w', hr, a1, a2, -, a4⟩ := run_append_own_at (P := P) w base t ty e i z size bytes ht hi hz hsize hby hzs hsz v n xs hown ad m c news hl (h2 ad rfl) ho h63 hbytes hbase;exact ⟨v', w', hr, a1, a2, a4⟩
 | none =>
  obtain rfl := h1 rfl;obtain rfl : news = [] := List.eq_nil_of_length_eq_zero (by omega);refine ⟨v, w, ?_, by simpa using hown, ⟨rfl, rfl, rfl, Nat.le_refl _, fun _ _ _ => rfl⟩, .inl rfl⟩;rcases hown.2 with ⟨rfl, rfl⟩ | ⟨g, cap, cur, rfl, _, _, hnc, _⟩
  ·simp [Builtin.append_, run_underlying ht, sizeOf, typeInfo, hi, Builtin.lenOf, Builtin.firstCells]
  ·simp [Builtin.append_, run_underlying ht, sizeOf, typeInfo, hi, Builtin.lenOf, Builtin.firstCells, hnc, storeCells]
theorem wp_append_view {o : Oper} {a : Act} {K : Act → World → Prop} {Q : Exit → Act → World → Prop} (s x : Operand) (t : TypeId)
 (ho : o.op = .call { callee := .builtin .append, args := #[s, x], argTypes := #[t, t] })
 (base : Nat) (e : TypeId) (i : TypeInfo) (z : Value) (size bytes : Nat) (ht : P.underlying t = some (.slice e)) (hi : P.info? e = some i) (hz : i.zero = some z)
 (hsize : i.size = size) (hby : i.bytes = bytes) (hzs : z.cells.size = size) (hsz : 0 < size)
 (v : Value) (n : Nat) (xs : List Value) (hs : a.eval s = v) (hown : w.ownsRow base e size v n xs) (y : Value) (m : Nat) (news : List Value) (hx : a.eval x = y) (hy : Source w size y m news)
 (h63 : n + m ≤ maxLen) (hbytes : (n + m) * bytes ≤ 140737488355328) (hbase : base ≤ w.heap.size)
 (h : ∀ v' w', w'.ownsRow base e size v' (n + m) (xs ++ news) → w.grownBy w' v.ownBlock → (v'.ownBlock = v.ownBlock ∨ v'.ownBlock = some w.heap.size) → K (a.put o.dst v') w') : o.wp P a w K Q := by
 obtain ⟨v', w', hr, h2, h3, h4⟩ := run_append_view (P := P) (w := w) base t o.type e i z size bytes ht hi hz hsize hby hzs hsz v n xs hown y m news hy h63 hbytes hbase;unfold Oper.wp execOp;simp only [ho, resolve, invoke, builtin, Sem.run_bind, Sem.run_pure, Result.andThen_ok, List.map_toArray, List.map_cons, List.map_nil, hs, hx, hr];exact h v' w' h2 h3 h4
theorem wpList_append_view {ops : Array Oper} {rest : List Oper} {o : Oper} {a : Act} {Q : Exit → Act → World → Prop} (hgd : o.guard = none) (s x : Operand) (t : TypeId)
 (ho : o.op = .call { callee := .builtin .append, args := #[s, x], argTypes := #[t, t] })
 (base : Nat) (e : TypeId) (i : TypeInfo) (z : Value) (size bytes : Nat) (ht : P.underlying t = some (.slice e)) (hi : P.info? e = some i) (hz : i.zero = some z)
 (hsize : i.size = size) (hby : i.bytes = bytes) (hzs : z.cells.size = size) (hsz : 0 < size)
 (v : Value) (n : Nat) (xs : List Value) (hs : a.eval s = v) (hown : w.ownsRow base e size v n xs) (y : Value) (m : Nat) (news : List Value) (hx : a.eval x = y) (hy : Source w size y m news)
 (h63 : n + m ≤ maxLen) (hbytes : (n + m) * bytes ≤ 140737488355328) (hbase : base ≤ w.heap.size)
 (h : ∀ v' w', w'.ownsRow base e size v' (n + m) (xs ++ news) → w.grownBy w' v.ownBlock → (v'.ownBlock = v.ownBlock ∨ v'.ownBlock = some w.heap.size) → wpList P ops Q rest (a.put o.dst v') w') : wpList P ops Q (o :: rest) a w :=
 wpList_plain hgd fun _ hK => wp_append_view s x t ho base e i z size bytes ht hi hz hsize hby hzs hsz v n xs hs hown y m news hx hy h63 hbytes hbase fun v' w' h2 h3 h4 => hK _ _ (h v' w' h2 h3 h4)
theorem step_append_view {ops : Array Oper} {o : Oper} {a : Act} {K : Act → World → Prop} {Q : Exit → Act → World → Prop} {E : Prop} (hgd : o.guard = none) (s x : Operand) (t : TypeId)
 (ho : o.op = .call { callee := .builtin .append, args := #[s, x], argTypes := #[t, t] })
 (base : Nat) (e : TypeId) (i : TypeInfo) (z : Value) (size bytes : Nat) (ht : P.underlying t = some (.slice e)) (hi : P.info? e = some i) (hz : i.zero = some z)
 (hsize : i.size = size) (hby : i.bytes = bytes) (hzs : z.cells.size = size) (hsz : 0 < size)
 (v : Value) (n : Nat) (xs : List Value) (hs : a.eval s = v) (hown : w.ownsRow base e size v n xs) (y : Value) (m : Nat) (news : List Value) (hx : a.eval x = y) (hy : Source w size y m news)
 (h63 : n + m ≤ maxLen) (hbytes : (n + m) * bytes ≤ 140737488355328) (hbase : base ≤ w.heap.size)
 (h : ∀ v' w', w'.ownsRow base e size v' (n + m) (xs ++ news) → w.grownBy w' v.ownBlock → (v'.ownBlock = v.ownBlock ∨ v'.ownBlock = some w.heap.size) → K (a.put o.dst v') w') :
 if Region.wanted o (yielded ops a.tmps) = true then Oper.wp P o a w K Q else E := by
 have hw : Region.wanted o (yielded ops a.tmps) = true := by simp [Region.wanted, hgd]
 rw [if_pos hw];exact wp_append_view s x t ho base e i z size bytes ht hi hz hsize hby hzs hsz v n xs hs hown y m news hx hy h63 hbytes hbase h
end
end Go.Proofs.YtmemgbklgcjobaaGreatDoor
