/-
  Parts of the proofs over mills, of: Draw, PlainMix, PlainCut. Conditions: each theorem states its own.
-/
import Derived.Test.YtmemgbklgcjobaaGreatDoorProg
import Derived.StillTailTactics
import Derived.BigQuiet
import Derived.Deep.RegionWith
import Derived.Test.YtmemgbklgcjobaaGreatDoorY01
set_option linter.unusedSimpArgs false
set_option linter.unusedVariables false
set_option maxRecDepth 10000
set_option maxHeartbeats 64000000
namespace Go.Proofs.YtmemgbklgcjobaaGreatDoor
open Go.RowKit
def BytesAt (lo hi : Nat) (w : World) (v : Value) (n : Nat) : Prop :=
 ∃ (ao : Option Addr) (cap : Nat), v = .slice ao n cap ∧ n ≤ cap ∧ cap ≤ 9223372036854775807 ∧ hi ≤ w.heap.size ∧
  (0 < n → ∃ b o, ao = some ⟨b, o, none⟩ ∧ lo ≤ b ∧ b < hi ∧ ∀ i, i < n → ∃ x : Int, w.cell? ⟨b, o + i, none⟩ = some (.int .u8 x) ∧ 0 ≤ x ∧ x ≤ 255)
structure RdAt (R : Nat) (w : World) (v : Value) (n : Nat) (p : Int) : Prop where
 row : w.rowIs R 144 2 (fun i => if i = 0 then v else .int .i64 p)
 bytes : BytesAt 0 R w v n
 few : n ≤ 2000
theorem BytesAt.other {lo hi l m : Nat} {w w' : World} {v : Value} {n : Nat} (h : BytesAt lo hi w v n) (k : Other l m w w') (hd : hi ≤ l) : BytesAt lo hi w' v n := by
 obtain ⟨ao, cap, e, h1, h2, h3, h4⟩ := h;refine ⟨ao, cap, e, h1, h2, Nat.le_trans h3 k.size, fun hn => ?_⟩;obtain ⟨b, o, e1, e2, e3, e4⟩ := h4 hn;refine ⟨b, o, e1, e2, e3, fun i hi => ?_⟩;obtain ⟨x, x1, x2⟩ := e4 i hi;exact ⟨x, by rw [World.cell?_of_block (w := w) (k.block b (by omega) (.inl (by omega)))]; exact x1, x2⟩
theorem BytesAt.below {lo hi B : Nat} {w w' : World} {v : Value} {n : Nat} (h : BytesAt lo hi w v n) (k : Below B w w') (hB : hi ≤ B) : BytesAt lo hi w' v n := by
 obtain ⟨ao, cap, e, h1, h2, h3, h4⟩ := h;refine ⟨ao, cap, e, h1, h2, Nat.le_trans h3 k.size, fun hn => ?_⟩;obtain ⟨b, o, e1, e2, e3, e4⟩ := h4 hn;refine ⟨b, o, e1, e2, e3, fun i hi => ?_⟩;obtain ⟨x, x1, x2⟩ := e4 i hi;exact ⟨x, by rw [World.cell?_of_block (w := w) (k.block b (by omega))]; exact x1, x2⟩
theorem RdAt.drewN {R : Nat} {w : World} {v : Value} {n : Nat} {p : Int} (h : RdAt R w v n p) (m : Nat) : RdAt R (w.drewN m) v n p := ⟨h.row, h.bytes, h.few⟩
theorem Other.drewN {lo hi : Nat} {a w : World} (h : Other lo hi a w) (n : Nat) : Other lo hi a (w.drewN n) := ⟨h.os, h.tape, h.output, h.size, h.block⟩
def Rd (R k : Nat) (w : World) : Prop := ∃ v n, ∃ p : Nat, p ≤ k ∧ RdAt R w v n p
theorem Rd.mono {R k m : Nat} {w : World} (h : Rd R k w) (hm : k ≤ m) : Rd R m w := by
 obtain ⟨v, n, p, h1, h2⟩ := h;exact ⟨v, n, p, by omega, h2⟩
theorem Rd.lt {R k : Nat} {w : World} (h : Rd R k w) : R < w.heap.size := by
 obtain ⟨v, n, p, h1, h2⟩ := h;exact h2.row.lt
theorem BytesAt.mono {lo hi hi' : Nat} {w : World} {v : Value} {n : Nat} (h : BytesAt lo hi w v n) (h1 : hi ≤ hi') (h2 : hi' ≤ w.heap.size) : BytesAt lo hi' w v n := by
 obtain ⟨ao, cap, e, a1, a2, a3, a4⟩ := h;refine ⟨ao, cap, e, a1, a2, h2, fun hn => ?_⟩;obtain ⟨b, o, e1, e2, e3, e4⟩ := a4 hn;exact ⟨b, o, e1, e2, by omega, e4⟩
theorem BytesAt.drewN {lo hi : Nat} {w : World} {v : Value} {n : Nat} (h : BytesAt lo hi w v n) (m : Nat) : BytesAt lo hi (w.drewN m) v n := h
theorem Rd.drewN {R k : Nat} {w : World} (h : Rd R k w) (m : Nat) : Rd R k (w.drewN m) := by
 obtain ⟨v, n, p, h1, h2⟩ := h;exact ⟨v, n, p, h1, h2.drewN m⟩
theorem Rd.keep {R k B : Nat} {w w' : World} (h : Rd R k w) (hb : Below B w w') (hB : R < B) : Rd R k w' := by
 obtain ⟨v, n, p, h1, h2⟩ := h;exact ⟨v, n, p, h1, rowIs_below h2.row hb hB, h2.bytes.below hb (by omega), h2.few⟩
theorem BytesAt.len {lo hi : Nat} {w : World} {v : Value} {n : Nat} (h : BytesAt lo hi w v n) : n ≤ 9223372036854775807 := by
 obtain ⟨_, _, _, _, _, _, _⟩ := h; omega
structure St where
 c : Int
 m : Int
 s : Int
 p : Int
 k : Int
 deriving DecidableEq
structure Gr where
 lc : Int
 hc : Int
 lm : Int
 hm : Int
 ls : Int
 hs : Int
 deriving DecidableEq
def st0 : St := ⟨0, 0, 0, 0, 0⟩
def stB (s : St) : Bool := wi s.c 0 999 && (wi s.m 0 999 && (wi s.s 0 999 && (wi s.p 0 99 && wi s.k 0 9)))
def stsB (l : List St) : Bool := decide (l.length ≤ 4) && l.all stB
def grB (g : Gr) : Bool := wi g.lc 0 999 && (wi g.hc g.lc 999 && (wi g.lm 0 999 && (wi g.hm g.lm 999 && (wi g.ls 0 999 && wi g.hs g.ls 999))))
theorem stsB_len {l : List St} (h : stsB l = true) : l.length ≤ 4 := by simp [stsB] at h; exact h.1
theorem stsB_at {l : List St} (h : stsB l = true) {k : Nat} (hk : k < l.length) : stB l[k] = true := by
 simp [stsB] at h; exact h.2 _ (List.getElem_mem _)
theorem stsB_getD {l : List St} (h : stsB l = true) {k : Nat} (hk : k < l.length) : stB (l.getD k st0) = true := by
 rw [List.getD_eq_getElem?_getD, List.getElem?_eq_getElem hk]; exact stsB_at h hk
theorem stB_iff {s : St} : stB s = true ↔ (0 ≤ s.c ∧ s.c ≤ 999) ∧ (0 ≤ s.m ∧ s.m ≤ 999) ∧ (0 ≤ s.s ∧ s.s ≤ 999) ∧ (0 ≤ s.p ∧ s.p ≤ 99) ∧ (0 ≤ s.k ∧ s.k ≤ 9) := by
 simp [stB, wi_iff]
theorem grB_iff {g : Gr} : grB g = true ↔ (0 ≤ g.lc ∧ g.lc ≤ 999) ∧ (g.lc ≤ g.hc ∧ g.hc ≤ 999) ∧ (0 ≤ g.lm ∧ g.lm ≤ 999) ∧ (g.lm ≤ g.hm ∧ g.hm ≤ 999) ∧ (0 ≤ g.ls ∧ g.ls ≤ 999) ∧ (g.ls ≤ g.hs ∧ g.hs ≤ 999) := by
 simp [grB, wi_iff]
def sumTo (l : List Int) : Nat → Int
 | 0 => 0
 | k + 1 => sumTo l k + l.getD k 0
def mixK (sts : List St) (mix : List Int) (k : Nat) : Bool := wi (mix.getD k 0) 0 (sts.getD k st0).k
def mixB (sts : List St) (mix : List Int) : Bool := stsB sts && (decide (mix.length = sts.length) && upTo mix.length (mixK sts mix))
def dotTo (f : St → Int) (sts : List St) (mix : List Int) : Nat → Int
 | 0 => 0
 | k + 1 => dotTo f sts mix k + mix.getD k 0 * f (sts.getD k st0)
def costR (sts : List St) (mix : List Int) : Int := if mixB sts mix then dotTo St.p sts mix mix.length else -1
def sumsR (f : St → Int) (sts : List St) (mix : List Int) : Int := if mixB sts mix then dotTo f sts mix mix.length else -1
def tonsR (mix : List Int) : Int := sumTo mix mix.length
def meetR (sts : List St) (mix : List Int) (g : Gr) : Bool :=
 mixB sts mix && (grB g && (decide (0 < tonsR mix) && (wi (sumsR St.c sts mix) (g.lc * tonsR mix) (g.hc * tonsR mix) && (wi (sumsR St.m sts mix) (g.lm * tonsR mix) (g.hm * tonsR mix) && wi (sumsR St.s sts mix) (g.ls * tonsR mix) (g.hs * tonsR mix)))))
theorem mixB_parts {sts : List St} {mix : List Int} (h : mixB sts mix = true) : stsB sts = true ∧ mix.length = sts.length ∧ ∀ k, k < mix.length → 0 ≤ mix.getD k 0 ∧ mix.getD k 0 ≤ (sts.getD k st0).k := by
 unfold mixB at h;rw [Bool.and_eq_true, Bool.and_eq_true, decide_eq_true_iff, upTo_iff] at h;exact ⟨h.1, h.2.1, fun k hk => wi_iff.1 (h.2.2 k hk)⟩
theorem mix_bd {sts : List St} {mix : List Int} (h : mixB sts mix = true) {k : Nat} (hk : k < mix.length) : 0 ≤ mix.getD k 0 ∧ mix.getD k 0 ≤ 9 := by
 obtain ⟨h1, h2, h3⟩ := mixB_parts h;have := h3 k hk;have := (stB_iff.1 (stsB_getD h1 (show k < sts.length by omega))).2.2.2.2;omega
theorem mul_bd {a b x y : Int} (h1 : 0 ≤ a) (h2 : a ≤ x) (h3 : 0 ≤ b) (h4 : b ≤ y) : 0 ≤ a * b ∧ a * b ≤ x * y :=
 ⟨Int.mul_nonneg h1 h3, Int.mul_le_mul h2 h4 h3 (Int.le_trans h1 h2)⟩
theorem sumTo_bd {sts : List St} {mix : List Int} (h : mixB sts mix = true) : ∀ k, k ≤ mix.length → 0 ≤ sumTo mix k ∧ sumTo mix k ≤ 9 * k
 | 0, _ => by simp [sumTo]
 | k + 1, hk => by
  have := sumTo_bd h k (by omega);have := mix_bd h (show k < mix.length by omega);simp only [sumTo]; omega
theorem dotTo_bd {f : St → Int} (hf : ∀ s, stB s = true → 0 ≤ f s ∧ f s ≤ 999) {sts : List St} {mix : List Int} (h : mixB sts mix = true) : ∀ k, k ≤ mix.length → 0 ≤ dotTo f sts mix k ∧ dotTo f sts mix k ≤ 8991 * k
 | 0, _ => by simp [dotTo]
 | k + 1, hk => by
  have h1 := dotTo_bd hf h k (by omega);have h2 := mix_bd h (show k < mix.length by omega);obtain ⟨h3, h4, _⟩ := mixB_parts h;have h5 := hf _ (stsB_getD h3 (show k < sts.length by omega));have h6 := mul_bd h2.1 h2.2 h5.1 h5.2;simp only [dotTo]; omega
theorem mix_len4 {sts : List St} {mix : List Int} (h : mixB sts mix = true) : mix.length ≤ 4 := by
 obtain ⟨h1, h2, _⟩ := mixB_parts h;have := stsB_len h1; omega
theorem stB_c {s : St} (h : stB s = true) : 0 ≤ s.c ∧ s.c ≤ 999 := (stB_iff.1 h).1
theorem stB_m {s : St} (h : stB s = true) : 0 ≤ s.m ∧ s.m ≤ 999 := (stB_iff.1 h).2.1
theorem stB_s {s : St} (h : stB s = true) : 0 ≤ s.s ∧ s.s ≤ 999 := (stB_iff.1 h).2.2.1
theorem stB_p {s : St} (h : stB s = true) : 0 ≤ s.p ∧ s.p ≤ 99 := (stB_iff.1 h).2.2.2.1
theorem stB_p9 {s : St} (h : stB s = true) : 0 ≤ s.p ∧ s.p ≤ 999 := by have := stB_p h; omega
theorem stB_k {s : St} (h : stB s = true) : 0 ≤ s.k ∧ s.k ≤ 9 := (stB_iff.1 h).2.2.2.2
def ups (n : Nat) : List Int := (List.range n).map fun (k : Nat) => (k : Int)
theorem ups_succ (n : Nat) : ups (n + 1) = ups n ++ [(n : Int)] := by simp [ups, List.range_succ]
theorem mem_ups {n : Nat} {x : Int} : x ∈ ups n ↔ 0 ≤ x ∧ x < n := by
 simp only [ups, List.mem_map, List.mem_range];constructor
 ·rintro ⟨k, hk, rfl⟩; omega
 ·rintro ⟨h1, h2⟩; exact ⟨x.toNat, by omega, by omega⟩
def allM : List Int → Int → List (List Int)
 | [], t => if t = 0 then [[]] else []
 | s :: ss, t => (ups (min t s + 1).toNat).flatMap fun n => (allM ss (t - n)).map (n :: ·)
def stepM (sts : List St) (g : Gr) (b : Option (List Int × Int)) (mix : List Int) : Option (List Int × Int) :=
 if meetR sts mix g && (match b with | none => true | some (_, c) => decide (costR sts mix < c)) then some (mix, costR sts mix) else b
def foldM (sts : List St) (g : Gr) (b : Option (List Int × Int)) (l : List (List Int)) : Option (List Int × Int) := l.foldl (stepM sts g) b
def mixBest (sts : List St) (g : Gr) (tons : Int) : Option (List Int) :=
 if stsB sts && (grB g && wi tons 1 12) then (foldM sts g none (allM (sts.map St.k) tons)).map (·.1) else none
theorem foldM_append (sts : List St) (g : Gr) (b : Option (List Int × Int)) (l l' : List (List Int)) : foldM sts g b (l ++ l') = foldM sts g (foldM sts g b l) l' := by simp [foldM]
theorem stepM_cases (sts : List St) (g : Gr) (b : Option (List Int × Int)) (x : List Int) : stepM sts g b x = b ∨ (meetR sts x g = true ∧ stepM sts g b x = some (x, costR sts x)) := by
 unfold stepM;generalize (match b with | none => true | some (_, c) => decide (costR sts x < c)) = t;cases h : meetR sts x g <;> cases t <;> simp
theorem foldM_cases (sts : List St) (g : Gr) : ∀ (l : List (List Int)) (b : Option (List Int × Int)), foldM sts g b l = b ∨ ∃ mix ∈ l, meetR sts mix g = true ∧ foldM sts g b l = some (mix, costR sts mix)
 | [], b => .inl rfl
 | x :: l, b => by
  have e : foldM sts g b (x :: l) = foldM sts g (stepM sts g b x) l := rfl;rcases foldM_cases sts g l (stepM sts g b x) with h | ⟨mix, h1, h2, h3⟩
  ·rcases stepM_cases sts g b x with h' | ⟨h1, h2⟩
   ·exact .inl (by rw [e, h, h'])
   ·exact .inr ⟨x, by simp, h1, by rw [e, h, h2]⟩
  ·exact .inr ⟨mix, by simp [h1], h2, by rw [e, h3]⟩
theorem sumTo_cons (a : Int) (l : List Int) : ∀ k, sumTo (a :: l) (k + 1) = a + sumTo l k
 | 0 => by simp [sumTo]
 | k + 1 => by
  have := sumTo_cons a l k;rw [sumTo, this, sumTo];simp only [List.getD_cons_succ]; omega
theorem allM_mem : ∀ (ss : List Int) (t : Int), ∀ mix ∈ allM ss t, mix.length = ss.length ∧ tonsR mix = t
 | [], t => by
  intro mix h;unfold allM at h;split at h
  ·simp only [List.mem_singleton] at h; subst h; subst t; exact ⟨rfl, rfl⟩
  ·cases h
 | s :: ss, t => by
  intro mix h;simp only [allM, List.mem_flatMap, List.mem_map] at h;obtain ⟨n, hn, l, hl, rfl⟩ := h;obtain ⟨h1, h2⟩ := allM_mem ss _ l hl;refine ⟨by simp [h1], ?_⟩;unfold tonsR at h2 ⊢;rw [List.length_cons, sumTo_cons, h2]; omega
theorem best_ok {sts : List St} {g : Gr} {tons : Int} {mix : List Int} (h : mixBest sts g tons = some mix) : mixB sts mix = true ∧ tonsR mix = tons ∧ 1 ≤ tons ∧ tons ≤ 12 := by
 unfold mixBest at h;split at h
 ·rename_i hc
  rw [Bool.and_eq_true, Bool.and_eq_true, wi_iff] at hc;rcases foldM_cases sts g (allM (sts.map St.k) tons) none with e | ⟨m, h1, h2, e⟩
  ·rw [e] at h; cases h
  ·rw [e] at h
   simp only [Option.map_some, Option.some.injEq] at h;subst h;unfold meetR at h2;rw [Bool.and_eq_true] at h2;exact ⟨h2.1, (allM_mem _ _ _ h1).2, hc.2.2.1, hc.2.2.2⟩
 ·cases h
def takeM (sts : List St) (mix : List Int) : List St := (List.range sts.length).map fun k => { sts.getD k st0 with k := (sts.getD k st0).k - mix.getD k 0 }
theorem takeM_len (sts : List St) (mix : List Int) : (takeM sts mix).length = sts.length := by simp [takeM]
theorem takeM_getD {sts : List St} {mix : List Int} {k : Nat} (hk : k < sts.length) : (takeM sts mix).getD k st0 = { sts.getD k st0 with k := (sts.getD k st0).k - mix.getD k 0 } := by
 unfold takeM;rw [List.getD_eq_getElem?_getD, List.getElem?_eq_getElem (by simpa using hk)];simp
theorem all_getD {l : List St} : l.all stB = true ↔ ∀ k, k < l.length → stB (l.getD k st0) = true := by
 rw [List.all_eq_true];constructor
 ·intro h k hk
  rw [List.getD_eq_getElem?_getD, List.getElem?_eq_getElem hk]; exact h _ (List.getElem_mem _)
 ·intro h x hx
  obtain ⟨k, hk, rfl⟩ := List.getElem_of_mem hx;have := h k hk
  rwa [List.getD_eq_getElem?_getD, List.getElem?_eq_getElem hk] at this
theorem takeM_ok {sts : List St} {mix : List Int} (h : mixB sts mix = true) : stsB (takeM sts mix) = true := by
 obtain ⟨h1, h2, h3⟩ := mixB_parts h;have := stsB_len h1;unfold stsB;rw [Bool.and_eq_true, decide_eq_true_iff, all_getD, takeM_len];refine ⟨by omega, fun k hk => ?_⟩;rw [takeM_getD hk];have h5 := stB_iff.1 (stsB_getD h1 hk);have h6 := h3 k (by omega);rw [stB_iff];simp only;omega
def stockTo (sts : List St) : Nat → Int
 | 0 => 0
 | k + 1 => stockTo sts k + 4 * (sts.getD k st0).k
theorem stock_take {sts : List St} {mix : List Int} (h : mixB sts mix = true) : ∀ k, k ≤ sts.length → stockTo (takeM sts mix) k = stockTo sts k - 4 * sumTo mix k
 | 0, _ => by simp [stockTo, sumTo]
 | k + 1, hk => by
  have := stock_take h k (by omega);rw [stockTo, stockTo, sumTo, this, takeM_getD (by omega)];simp only; omega
theorem stock_bd {sts : List St} (h : stsB sts = true) : ∀ k, k ≤ sts.length → 0 ≤ stockTo sts k ∧ stockTo sts k ≤ 36 * k
 | 0, _ => by simp [stockTo]
 | k + 1, hk => by
  have := stock_bd h k (by omega);have := stB_k (stsB_getD h (show k < sts.length by omega));simp only [stockTo]; omega
def lensB (a b : Int) : Bool := wi a 1 60 && wi b (a + 1) 60
theorem lensB_iff {a b : Int} : lensB a b = true ↔ (1 ≤ a ∧ a ≤ 60) ∧ (a + 1 ≤ b ∧ b ≤ 60) := by simp [lensB, wi_iff]
def wasteAt (t : List Int) (a b : Int) (n : Nat) : Int :=
 let x := if a ≤ n then min (n : Int) (t.getD ((n : Int) - a).toNat 0) else n
 if b ≤ n then min x (t.getD ((n : Int) - b).toNat 0) else x
def tab (a b : Int) : Nat → List Int
 | 0 => []
 | n + 1 => tab a b n ++ [wasteAt (tab a b n) a b n]
theorem tab_len (a b : Int) : ∀ n, (tab a b n).length = n
 | 0 => rfl
 | n + 1 => by simp [tab, tab_len a b n]
theorem tab_old (a b : Int) {n k : Nat} (h : k < n) : (tab a b (n + 1)).getD k 0 = (tab a b n).getD k 0 := by
 simp only [tab, List.getD_eq_getElem?_getD];rw [List.getElem?_append_left (by rw [tab_len]; exact h)]
theorem tab_new (a b : Int) (n : Nat) : (tab a b (n + 1)).getD n 0 = wasteAt (tab a b n) a b n := by
 simp [tab, List.getD, tab_len]
theorem tab_bd {a b : Int} : ∀ n k, k < n → 0 ≤ (tab a b n).getD k 0 ∧ (tab a b n).getD k 0 ≤ k
 | 0, k, h => by omega
 | n + 1, k, h => by
  rcases Nat.lt_or_ge k n with hlt | hge
  ·rw [tab_old a b hlt]; exact tab_bd n k hlt
  ·obtain rfl : k = n := by omega
   rw [tab_new];have hb : ∀ j : Nat, 0 ≤ (tab a b k).getD j 0 := fun j => by
    rcases Nat.lt_or_ge j k with hj | hj
    ·exact (tab_bd k j hj).1
    ·rw [List.getD_eq_getElem?_getD, List.getElem?_eq_none (by rw [tab_len]; exact hj)]; exact Int.le_refl _
   have h1 := hb ((k : Int) - a).toNat;have h2 := hb ((k : Int) - b).toNat;unfold wasteAt;simp only;split <;> split <;> omega
def moreB (t : List Int) (x left : Int) : Bool := decide (x ≤ left) && (t.getD (left - x).toNat 0 == t.getD left.toNat 0)
def cnt (t : List Int) (x : Int) : Nat → Int → Nat
 | 0, _ => 0
 | f + 1, left => if moreB t x left then cnt t x f (left - x) + 1 else 0
theorem cnt_le (t : List Int) {x : Int} (hx : 1 ≤ x) : ∀ (f : Nat) (left : Int), 0 ≤ left → (cnt t x f left : Int) * x ≤ left
 | 0, left, h => by simp [cnt]; omega
 | f + 1, left, h => by
  unfold cnt;split
  ·rename_i hm
   unfold moreB at hm;rw [Bool.and_eq_true, decide_eq_true_iff] at hm;have := cnt_le t hx f (left - x) (by omega);rw [Int.natCast_add, Int.add_mul]; omega
  ·simp; omega
theorem cnt_fuel (t : List Int) {x : Int} (hx : 1 ≤ x) : ∀ (f g : Nat) (left : Int), 0 ≤ left → left < f → left < g → cnt t x f left = cnt t x g left
 | 0, _, left, h, h1, _ => by omega
 | _ + 1, 0, left, h, _, h2 => by omega
 | f + 1, g + 1, left, h, h1, h2 => by
  unfold cnt;split
  ·rename_i hm
   unfold moreB at hm;rw [Bool.and_eq_true, decide_eq_true_iff] at hm;rw [cnt_fuel t hx f g (left - x) (by omega) (by omega) (by omega)]
  ·rfl
def many1 (L a b : Int) : Nat := cnt (tab a b (L.toNat + 1)) b (L.toNat + 1) L
def many0 (L a b : Int) : Nat := cnt (tab a b (L.toNat + 1)) a (L.toNat + 1) (L - many1 L a b * b)
theorem many_le {L a b : Int} (h : lensB a b = true) (hL : 0 ≤ L) : (many1 L a b : Int) * b ≤ L ∧ (many0 L a b : Int) * a + (many1 L a b : Int) * b ≤ L := by
 obtain ⟨⟨h1, h2⟩, h3, h4⟩ := lensB_iff.1 h;have e1 := cnt_le (tab a b (L.toNat + 1)) (show 1 ≤ b by omega) (L.toNat + 1) L hL;have e1' : (many1 L a b : Int) * b ≤ L := e1;have e0 := cnt_le (tab a b (L.toNat + 1)) h1 (L.toNat + 1) (L - many1 L a b * b) (by omega);have e0' : (many0 L a b : Int) * a ≤ L - many1 L a b * b := e0;omega
theorem many_bd {L a b : Int} (h : lensB a b = true) (hL : 0 ≤ L) : (many1 L a b : Int) ≤ L ∧ (many0 L a b : Int) ≤ L := by
 obtain ⟨⟨h1, h2⟩, h3, h4⟩ := lensB_iff.1 h;obtain ⟨e1, e0⟩ := many_le h hL;have f1 : (many1 L a b : Int) * 1 ≤ (many1 L a b : Int) * b := Int.mul_le_mul_of_nonneg_left (by omega) (by omega);have f0 : (many0 L a b : Int) * 1 ≤ (many0 L a b : Int) * a := Int.mul_le_mul_of_nonneg_left (by omega) (by omega);have f2 : 0 ≤ (many1 L a b : Int) * b := Int.mul_nonneg (by omega) (by omega);omega
def wasteR (L a b : Int) : Int := L - many0 L a b * a - many1 L a b * b
end Go.Proofs.YtmemgbklgcjobaaGreatDoor
