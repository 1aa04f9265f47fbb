/-
  Mixtures, in plain lists: validity, sums, the cheapest one. No program in sight.
-/
import Derived.Test.YtbafifilklfafaaDoorPlainPile
namespace Go.Proofs.YtbafifilklfafaaDoor
open Go.RowKit

structure St where
  c : Int
  m : Int
  s : Int
  p : Int
  k : Int
  deriving DecidableEq
structure Gr where
  lc : Int
  hc : Int
  lm : Int
  hm : Int
  ls : Int
  hs : Int
  deriving DecidableEq
def st0 : St := ⟨0, 0, 0, 0, 0⟩
def stB (s : St) : Bool := wi s.c 0 999 && (wi s.m 0 999 && (wi s.s 0 999 && (wi s.p 0 99 && wi s.k 0 9)))
def stsB (l : List St) : Bool := decide (l.length ≤ 4) && l.all stB
def grB (g : Gr) : Bool := wi g.lc 0 999 && (wi g.hc g.lc 999 && (wi g.lm 0 999 && (wi g.hm g.lm 999 && (wi g.ls 0 999 && wi g.hs g.ls 999))))
theorem stsB_len {l : List St} (h : stsB l = true) : l.length ≤ 4 := by simp [stsB] at h; exact h.1
theorem stsB_at {l : List St} (h : stsB l = true) {k : Nat} (hk : k < l.length) : stB l[k] = true := by
  simp [stsB] at h; exact h.2 _ (List.getElem_mem _)
theorem stsB_getD {l : List St} (h : stsB l = true) {k : Nat} (hk : k < l.length) : stB (l.getD k st0) = true := by
  rw [List.getD_eq_getElem?_getD, List.getElem?_eq_getElem hk]; exact stsB_at h hk
theorem stB_iff {s : St} : stB s = true ↔ (0 ≤ s.c ∧ s.c ≤ 999) ∧ (0 ≤ s.m ∧ s.m ≤ 999) ∧ (0 ≤ s.s ∧ s.s ≤ 999) ∧ (0 ≤ s.p ∧ s.p ≤ 99) ∧ (0 ≤ s.k ∧ s.k ≤ 9) := by
  simp [stB, wi_iff]
theorem grB_iff {g : Gr} : grB g = true ↔ (0 ≤ g.lc ∧ g.lc ≤ 999) ∧ (g.lc ≤ g.hc ∧ g.hc ≤ 999) ∧ (0 ≤ g.lm ∧ g.lm ≤ 999) ∧ (g.lm ≤ g.hm ∧ g.hm ≤ 999) ∧ (0 ≤ g.ls ∧ g.ls ≤ 999) ∧ (g.ls ≤ g.hs ∧ g.hs ≤ 999) := by
  simp [grB, wi_iff]

/-- The sum of the first ones. -/
def sumTo (l : List Int) : Nat → Int
  | 0 => 0
  | k + 1 => sumTo l k + l.getD k 0
/-- A mixture's k-th tons are there. -/
def mixK (sts : List St) (mix : List Int) (k : Nat) : Bool := wi (mix.getD k 0) 0 (sts.getD k st0).k
def mixB (sts : List St) (mix : List Int) : Bool := stsB sts && (decide (mix.length = sts.length) && upTo mix.length (mixK sts mix))
/-- The tons times what f tells of their stuff. -/
def dotTo (f : St → Int) (sts : List St) (mix : List Int) : Nat → Int
  | 0 => 0
  | k + 1 => dotTo f sts mix k + mix.getD k 0 * f (sts.getD k st0)
def costR (sts : List St) (mix : List Int) : Int := if mixB sts mix then dotTo St.p sts mix mix.length else -1
def sumsR (f : St → Int) (sts : List St) (mix : List Int) : Int := if mixB sts mix then dotTo f sts mix mix.length else -1
def tonsR (mix : List Int) : Int := sumTo mix mix.length
def meetR (sts : List St) (mix : List Int) (g : Gr) : Bool :=
  mixB sts mix && (grB g && (decide (0 < tonsR mix) && (wi (sumsR St.c sts mix) (g.lc * tonsR mix) (g.hc * tonsR mix) && (wi (sumsR St.m sts mix) (g.lm * tonsR mix) (g.hm * tonsR mix) && wi (sumsR St.s sts mix) (g.ls * tonsR mix) (g.hs * tonsR mix)))))

theorem mixB_parts {sts : List St} {mix : List Int} (h : mixB sts mix = true) : stsB sts = true ∧ mix.length = sts.length ∧ ∀ k, k < mix.length → 0 ≤ mix.getD k 0 ∧ mix.getD k 0 ≤ (sts.getD k st0).k := by
  unfold mixB at h
  rw [Bool.and_eq_true, Bool.and_eq_true, decide_eq_true_iff, upTo_iff] at h
  exact ⟨h.1, h.2.1, fun k hk => wi_iff.1 (h.2.2 k hk)⟩
theorem mix_bd {sts : List St} {mix : List Int} (h : mixB sts mix = true) {k : Nat} (hk : k < mix.length) : 0 ≤ mix.getD k 0 ∧ mix.getD k 0 ≤ 9 := by
  obtain ⟨h1, h2, h3⟩ := mixB_parts h
  have := h3 k hk
  have := (stB_iff.1 (stsB_getD h1 (show k < sts.length by omega))).2.2.2.2
  omega
theorem mul_bd {a b x y : Int} (h1 : 0 ≤ a) (h2 : a ≤ x) (h3 : 0 ≤ b) (h4 : b ≤ y) : 0 ≤ a * b ∧ a * b ≤ x * y :=
  ⟨Int.mul_nonneg h1 h3, Int.mul_le_mul h2 h4 h3 (Int.le_trans h1 h2)⟩
theorem sumTo_bd {sts : List St} {mix : List Int} (h : mixB sts mix = true) : ∀ k, k ≤ mix.length → 0 ≤ sumTo mix k ∧ sumTo mix k ≤ 9 * k
  | 0, _ => by simp [sumTo]
  | k + 1, hk => by
    have := sumTo_bd h k (by omega)
    have := mix_bd h (show k < mix.length by omega)
    simp only [sumTo]; omega
theorem dotTo_bd {f : St → Int} (hf : ∀ s, stB s = true → 0 ≤ f s ∧ f s ≤ 999) {sts : List St} {mix : List Int} (h : mixB sts mix = true) : ∀ k, k ≤ mix.length → 0 ≤ dotTo f sts mix k ∧ dotTo f sts mix k ≤ 8991 * k
  | 0, _ => by simp [dotTo]
  | k + 1, hk => by
    have h1 := dotTo_bd hf h k (by omega)
    have h2 := mix_bd h (show k < mix.length by omega)
    obtain ⟨h3, h4, _⟩ := mixB_parts h
    have h5 := hf _ (stsB_getD h3 (show k < sts.length by omega))
    have h6 := mul_bd h2.1 h2.2 h5.1 h5.2
    simp only [dotTo]; omega
theorem mix_len4 {sts : List St} {mix : List Int} (h : mixB sts mix = true) : mix.length ≤ 4 := by
  obtain ⟨h1, h2, _⟩ := mixB_parts h
  have := stsB_len h1; omega
theorem stB_c {s : St} (h : stB s = true) : 0 ≤ s.c ∧ s.c ≤ 999 := (stB_iff.1 h).1
theorem stB_m {s : St} (h : stB s = true) : 0 ≤ s.m ∧ s.m ≤ 999 := (stB_iff.1 h).2.1
theorem stB_s {s : St} (h : stB s = true) : 0 ≤ s.s ∧ s.s ≤ 999 := (stB_iff.1 h).2.2.1
theorem stB_p {s : St} (h : stB s = true) : 0 ≤ s.p ∧ s.p ≤ 99 := (stB_iff.1 h).2.2.2.1
theorem stB_p9 {s : St} (h : stB s = true) : 0 ≤ s.p ∧ s.p ≤ 999 := by have := stB_p h; omega
theorem stB_k {s : St} (h : stB s = true) : 0 ≤ s.k ∧ s.k ≤ 9 := (stB_iff.1 h).2.2.2.2

/-- The numbers 0, 1 .. below n. -/
def ups (n : Nat) : List Int := (List.range n).map fun (k : Nat) => (k : Int)
theorem ups_succ (n : Nat) : ups (n + 1) = ups n ++ [(n : Int)] := by simp [ups, List.range_succ]
theorem mem_ups {n : Nat} {x : Int} : x ∈ ups n ↔ 0 ≤ x ∧ x < n := by
  simp only [ups, List.mem_map, List.mem_range]
  constructor
  · rintro ⟨k, hk, rfl⟩; omega
  · rintro ⟨h1, h2⟩; exact ⟨x.toNat, by omega, by omega⟩
/-- All mixtures of so many tons out of stocks, in order. -/
def allM : List Int → Int → List (List Int)
  | [], t => if t = 0 then [[]] else []
  | s :: ss, t => (ups (min t s + 1).toNat).flatMap fun n => (allM ss (t - n)).map (n :: ·)
/-- The search's step: the mixture is kept if it is the first one, or cheaper. -/
def stepM (sts : List St) (g : Gr) (b : Option (List Int × Int)) (mix : List Int) : Option (List Int × Int) :=
  if meetR sts mix g && (match b with | none => true | some (_, c) => decide (costR sts mix < c)) then some (mix, costR sts mix) else b
def foldM (sts : List St) (g : Gr) (b : Option (List Int × Int)) (l : List (List Int)) : Option (List Int × Int) := l.foldl (stepM sts g) b
def mixBest (sts : List St) (g : Gr) (tons : Int) : Option (List Int) :=
  if stsB sts && (grB g && wi tons 1 12) then (foldM sts g none (allM (sts.map St.k) tons)).map (·.1) else none
theorem foldM_append (sts : List St) (g : Gr) (b : Option (List Int × Int)) (l l' : List (List Int)) : foldM sts g b (l ++ l') = foldM sts g (foldM sts g b l) l' := by simp [foldM]

theorem stepM_cases (sts : List St) (g : Gr) (b : Option (List Int × Int)) (x : List Int) : stepM sts g b x = b ∨ (meetR sts x g = true ∧ stepM sts g b x = some (x, costR sts x)) := by
  unfold stepM
  generalize (match b with | none => true | some (_, c) => decide (costR sts x < c)) = t
  cases h : meetR sts x g <;> cases t <;> simp
theorem foldM_cases (sts : List St) (g : Gr) : ∀ (l : List (List Int)) (b : Option (List Int × Int)), foldM sts g b l = b ∨ ∃ mix ∈ l, meetR sts mix g = true ∧ foldM sts g b l = some (mix, costR sts mix)
  | [], b => .inl rfl
  | x :: l, b => by
    have e : foldM sts g b (x :: l) = foldM sts g (stepM sts g b x) l := rfl
    rcases foldM_cases sts g l (stepM sts g b x) with h | ⟨mix, h1, h2, h3⟩
    · rcases stepM_cases sts g b x with h' | ⟨h1, h2⟩
      · exact .inl (by rw [e, h, h'])
      · exact .inr ⟨x, by simp, h1, by rw [e, h, h2]⟩
    · exact .inr ⟨mix, by simp [h1], h2, by rw [e, h3]⟩

theorem sumTo_cons (a : Int) (l : List Int) : ∀ k, sumTo (a :: l) (k + 1) = a + sumTo l k
  | 0 => by simp [sumTo]
  | k + 1 => by
    have := sumTo_cons a l k
    rw [sumTo, this, sumTo]
    simp only [List.getD_cons_succ]; omega
/-- What allM tells: the length, and the tons. -/
theorem allM_mem : ∀ (ss : List Int) (t : Int), ∀ mix ∈ allM ss t, mix.length = ss.length ∧ tonsR mix = t
  | [], t => by
    intro mix h
    unfold allM at h
    split at h
    · simp only [List.mem_singleton] at h; subst h; subst t; exact ⟨rfl, rfl⟩
    · cases h
  | s :: ss, t => by
    intro mix h
    simp only [allM, List.mem_flatMap, List.mem_map] at h
    obtain ⟨n, hn, l, hl, rfl⟩ := h
    obtain ⟨h1, h2⟩ := allM_mem ss _ l hl
    refine ⟨by simp [h1], ?_⟩
    unfold tonsR at h2 ⊢
    rw [List.length_cons, sumTo_cons, h2]; omega
/-- The best mixture is one. -/
theorem best_ok {sts : List St} {g : Gr} {tons : Int} {mix : List Int} (h : mixBest sts g tons = some mix) : mixB sts mix = true ∧ tonsR mix = tons ∧ 1 ≤ tons ∧ tons ≤ 12 := by
  unfold mixBest at h
  split at h
  · rename_i hc
    rw [Bool.and_eq_true, Bool.and_eq_true, wi_iff] at hc
    rcases foldM_cases sts g (allM (sts.map St.k) tons) none with e | ⟨m, h1, h2, e⟩
    · rw [e] at h; cases h
    · rw [e] at h
      simp only [Option.map_some, Option.some.injEq] at h
      subst h
      unfold meetR at h2
      rw [Bool.and_eq_true] at h2
      exact ⟨h2.1, (allM_mem _ _ _ h1).2, hc.2.2.1, hc.2.2.2⟩
  · cases h

/-- What is left of the stocks. -/
def takeM (sts : List St) (mix : List Int) : List St := (List.range sts.length).map fun k => { sts.getD k st0 with k := (sts.getD k st0).k - mix.getD k 0 }
theorem takeM_len (sts : List St) (mix : List Int) : (takeM sts mix).length = sts.length := by simp [takeM]
theorem takeM_getD {sts : List St} {mix : List Int} {k : Nat} (hk : k < sts.length) : (takeM sts mix).getD k st0 = { sts.getD k st0 with k := (sts.getD k st0).k - mix.getD k 0 } := by
  unfold takeM
  rw [List.getD_eq_getElem?_getD, List.getElem?_eq_getElem (by simpa using hk)]
  simp
theorem all_getD {l : List St} : l.all stB = true ↔ ∀ k, k < l.length → stB (l.getD k st0) = true := by
  rw [List.all_eq_true]
  constructor
  · intro h k hk
    rw [List.getD_eq_getElem?_getD, List.getElem?_eq_getElem hk]; exact h _ (List.getElem_mem _)
  · intro h x hx
    obtain ⟨k, hk, rfl⟩ := List.getElem_of_mem hx
    have := h k hk
    rwa [List.getD_eq_getElem?_getD, List.getElem?_eq_getElem hk] at this
theorem takeM_ok {sts : List St} {mix : List Int} (h : mixB sts mix = true) : stsB (takeM sts mix) = true := by
  obtain ⟨h1, h2, h3⟩ := mixB_parts h
  have := stsB_len h1
  unfold stsB
  rw [Bool.and_eq_true, decide_eq_true_iff, all_getD, takeM_len]
  refine ⟨by omega, fun k hk => ?_⟩
  rw [takeM_getD hk]
  have h5 := stB_iff.1 (stsB_getD h1 hk)
  have h6 := h3 k (by omega)
  rw [stB_iff]
  simp only
  omega
/-- The stock of the first ones. -/
def stockTo (sts : List St) : Nat → Int
  | 0 => 0
  | k + 1 => stockTo sts k + 4 * (sts.getD k st0).k
theorem stock_take {sts : List St} {mix : List Int} (h : mixB sts mix = true) : ∀ k, k ≤ sts.length → stockTo (takeM sts mix) k = stockTo sts k - 4 * sumTo mix k
  | 0, _ => by simp [stockTo, sumTo]
  | k + 1, hk => by
    have := stock_take h k (by omega)
    rw [stockTo, stockTo, sumTo, this, takeM_getD (by omega)]
    simp only; omega
theorem stock_bd {sts : List St} (h : stsB sts = true) : ∀ k, k ≤ sts.length → 0 ≤ stockTo sts k ∧ stockTo sts k ≤ 36 * k
  | 0, _ => by simp [stockTo]
  | k + 1, hk => by
    have := stock_bd h k (by omega)
    have := stB_k (stsB_getD h (show k < sts.length by omega))
    simp only [stockTo]; omega
end Go.Proofs.YtbafifilklfafaaDoor
