/-
  Orders of jobs and what they cost: an exchange of neighbours; Smith's rule; the earliest due first. No program in sight.
-/
import Derived.Test.YtfjemnjdkniibaaDoorWalkH
import Derived.Test.YtfjemnjdkniibaaDoorWalkU
namespace Go.Proofs.YtfjemnjdkniibaaDoor

/-- The indices below n. -/
def idx (n : Nat) : List Int := (List.range n).map fun (k : Nat) => (k : Int)
theorem idx_succ (n : Nat) : idx (n + 1) = idx n ++ [(n : Int)] := by simp [idx, List.range_succ]
theorem idx_mem {n : Nat} {a : Int} : a ∈ idx n ↔ 0 ≤ a ∧ a < (n : Int) := by
  simp only [idx, List.mem_map, List.mem_range]
  constructor
  · rintro ⟨k, h, rfl⟩; omega
  · rintro ⟨h1, h2⟩; exact ⟨a.toNat, by omega, by omega⟩
theorem idx_nodup (n : Nat) : (idx n).Nodup := by
  rw [idx, List.nodup_iff_pairwise_ne, List.pairwise_map]
  exact (List.nodup_iff_pairwise_ne.1 List.nodup_range).imp fun h => by omega
theorem idx_len (n : Nat) : (idx n).length = n := by simp [idx]

/-- What an order is: indices, none twice, as many as there are. -/
theorem ord_iff {os : List Int} {m : Nat} : ordB os m = true ↔ (os.length = m ∧ os.Nodup ∧ ∀ a ∈ os, 0 ≤ a ∧ a < (m : Int)) := by
  unfold ordB
  rw [Bool.and_eq_true, decide_eq_true_eq, upTo_iff]
  constructor
  · rintro ⟨h1, h2⟩
    refine ⟨by omega, ?_, ?_⟩
    · rw [List.nodup_iff_pairwise_ne, List.pairwise_iff_getElem]
      intro i j hi hj hij e
      have := h2 j hj
      rw [ordK_at hj, Bool.and_eq_true, Bool.not_eq_true', hasI_false] at this
      refine this.2 ?_
      rw [← e, List.mem_take_iff_getElem]
      exact ⟨i, by omega, rfl⟩
    · intro a ha
      obtain ⟨i, hi, rfl⟩ := List.getElem_of_mem ha
      have := h2 i hi
      rw [ordK_at hi, Bool.and_eq_true, wi_iff] at this
      omega
  · rintro ⟨h1, h2, h3⟩
    refine ⟨by omega, fun k hk => ?_⟩
    rw [ordK_at hk, Bool.and_eq_true, Bool.not_eq_true', hasI_false, wi_iff]
    refine ⟨by have := h3 _ (List.getElem_mem hk); omega, fun hm => ?_⟩
    rw [List.mem_take_iff_getElem] at hm
    obtain ⟨i, hi, e⟩ := hm
    rw [List.nodup_iff_pairwise_ne, List.pairwise_iff_getElem] at h2
    exact h2 i k (by omega) hk (by omega) e
theorem ord_perm {os : List Int} {m : Nat} (h : ordB os m = true) : os.Perm (idx m) := by
  obtain ⟨h1, h2, h3⟩ := ord_iff.1 h
  refine (List.perm_ext_iff_of_nodup h2 (idx_nodup m)).2 fun a => ⟨fun ha => idx_mem.2 (h3 a ha), fun ha => ?_⟩
  refine Classical.byContradiction fun hno => ?_
  have := few (n := m) (l := a :: os) (List.nodup_cons.2 ⟨hno, h2⟩) fun b hb => by
    rcases List.mem_cons.1 hb with rfl | hb
    · exact idx_mem.1 ha
    · exact h3 b hb
  simp at this; omega
theorem ord_of_perm {os : List Int} {m : Nat} (h : os.Perm (idx m)) : ordB os m = true :=
  ord_iff.2 ⟨by rw [h.length_eq, idx_len], h.nodup_iff.2 (idx_nodup m), fun a ha => idx_mem.1 (h.mem_iff.1 ha)⟩

def sumI : List Int → Int
  | [] => 0
  | a :: l => a + sumI l
def maxI : List Int → Int
  | [] => 0
  | a :: l => max a (maxI l)
theorem sumI_append : ∀ l m, sumI (l ++ m) = sumI l + sumI m
  | [], m => by simp [sumI]
  | a :: l, m => by simp [sumI, sumI_append l m]; omega
theorem maxI_nn : ∀ l, 0 ≤ maxI l
  | [] => by simp [maxI]
  | a :: l => by have := maxI_nn l; simp only [maxI]; omega
theorem maxI_append : ∀ l m, maxI (l ++ m) = max (maxI l) (maxI m)
  | [], m => by have := maxI_nn m; simp only [List.nil_append, maxI]; omega
  | a :: l, m => by simp [maxI, maxI_append l m]
theorem sumI_perm {l m : List Int} (h : l.Perm m) : sumI l = sumI m := by
  induction h with
  | nil => rfl
  | cons a _ ih => simp [sumI, ih]
  | swap a b l => simp only [sumI]; omega
  | trans _ _ h1 h2 => omega
theorem maxI_perm {l m : List Int} (h : l.Perm m) : maxI l = maxI m := by
  induction h with
  | nil => rfl
  | cons a _ ih => simp [maxI, ih]
  | swap a b l => simp only [maxI]; omega
  | trans _ _ h1 h2 => omega

/-- What each costs, F of it and of when it is done, worked at in an order from t on. -/
def cs (js : List J) (F : Int → Int → Int) : Int → List Int → List Int
  | _, [] => []
  | t, a :: l => F a (t + spn js a) :: cs js F (t + spn js a) l
theorem cs_append (js : List J) (F : Int → Int → Int) : ∀ t l m, cs js F t (l ++ m) = cs js F t l ++ cs js F (t + spns js l) m
  | t, [], m => by simp [cs, spns]
  | t, a :: l, m => by
    simp only [List.cons_append, cs, spns, List.cons.injEq, true_and]
    rw [cs_append js F _ l m]; congr 2; omega

theorem tSum_spns (js : List J) (os : List Int) : ∀ k, k ≤ os.length → tSum js os k = spns js (os.take k)
  | 0, _ => by simp [tSum, spns]
  | k + 1, h => by
    rw [List.take_succ_eq_append_getElem (by omega), spns_append, ← tSum_spns js os k (by omega)]
    simp only [tSum, spns, spn, jAt]
    rw [getD_lt (by omega)]
    omega

/-- When the k-th of the order is done. -/
theorem ends_at {js : List J} {os : List Int} (ho : ordB os js.length = true) {k : Nat} (hk : k < os.length) : ∀ m, k < m → m ≤ os.length → (endsTo js os m).getD os[k].toNat 0 = tSum js os (k + 1)
  | 0, h, _ => by omega
  | m + 1, h, hm => by
    obtain ⟨x, hx, hxl⟩ := ordB_at ho (show m < os.length by omega)
    obtain ⟨y, hy, hyl⟩ := ordB_at ho hk
    rw [hy, Int.toNat_natCast, endsTo_getD (by omega) hx y hyl]
    by_cases e : k = m
    · subst e
      rw [hx] at hy
      have : x = y := by omega
      simp [this]
    · have hne : ¬ y = x := fun e2 => by
        have hn := (ord_iff.1 ho).2.1
        rw [List.nodup_iff_pairwise_ne, List.pairwise_iff_getElem] at hn
        exact hn k m hk (by omega) (by omega) (by rw [hx, hy, e2])
      rw [if_neg hne]
      have := ends_at ho hk m (by omega) (by omega)
      rwa [hy, Int.toNat_natCast] at this

theorem cs_from {js : List J} {os : List Int} (ho : ordB os js.length = true) (F : Int → Int → Int) : ∀ d k, os.length - k = d → k ≤ os.length →
    cs js F (spns js (os.take k)) (os.drop k) = (os.drop k).map fun a => F a ((endsTo js os os.length).getD a.toNat 0)
  | 0, k, hd, hk => by
    rw [List.drop_of_length_le (by omega)]; rfl
  | d + 1, k, hd, hk => by
    have hlt : k < os.length := by omega
    rw [List.drop_eq_getElem_cons hlt]
    have h1 : spns js (os.take k) + spn js os[k] = spns js (os.take (k + 1)) := by
      rw [List.take_succ_eq_append_getElem hlt, spns_append]; simp [spns]
    simp only [cs, List.map_cons, List.cons.injEq]
    rw [h1, ends_at ho hlt _ hlt (Nat.le_refl _), tSum_spns js os _ (by omega)]
    exact ⟨rfl, cs_from ho F d (k + 1) (by omega) (by omega)⟩
theorem cs_ends {js : List J} {os : List Int} (ho : ordB os js.length = true) (F : Int → Int → Int) : cs js F 0 os = os.map fun a => F a ((endsTo js os os.length).getD a.toNat 0) := by
  have := cs_from ho F os.length 0 (by omega) (by omega)
  simpa [spns] using this

theorem idx_sum (f : Int → Int) (g : Nat → Int) (h0 : g 0 = 0) (hs : ∀ k, g (k + 1) = g k + f k) : ∀ n, g n = sumI ((idx n).map f)
  | 0 => by simp [idx, sumI, h0]
  | n + 1 => by rw [idx_succ, List.map_append, sumI_append, hs, idx_sum f g h0 hs n]; simp [sumI]
theorem idx_max (f : Int → Int) (g : Nat → Int) (h0 : g 0 = 0) (hs : ∀ k, g (k + 1) = max (g k) (f k)) : ∀ n, g n = maxI ((idx n).map f)
  | 0 => by simp [idx, maxI, h0]
  | n + 1 => by
    have hn : ∀ k, 0 ≤ g k := fun k => by
      induction k with
      | zero => omega
      | succ k ih => rw [hs]; omega
    rw [idx_succ, List.map_append, maxI_append, hs, idx_max f g h0 hs n]
    have := hn n
    rw [idx_max f g h0 hs n] at this
    simp [maxI]; omega

def fSum (js : List J) (a t : Int) : Int := t * (jAt js a).g
def fLate (js : List J) (a t : Int) : Int := t - due js a
def fMany (js : List J) (a t : Int) : Int := if due js a < t then 1 else 0
theorem endSum_cs {js : List J} {os : List Int} (h : okB js os = true) : endSumR js os = sumI (cs js (fSum js) 0 os) := by
  have ho : ordB os js.length = true := by simp [okB] at h; exact h.2
  rw [endSumR, if_pos h, cs_ends ho, sumI_perm ((ord_perm ho).map _), idx_sum (fun a => fSum js a ((endsTo js os os.length).getD a.toNat 0)) (endSumTo js (endsTo js os os.length)) rfl]
  intro k; simp [endSumTo, fSum, jAt]
theorem worst_cs {js : List J} {os : List Int} (h : okB js os = true) : worstR js os = maxI (cs js (fLate js) 0 os) := by
  have ho : ordB os js.length = true := by simp [okB] at h; exact h.2
  rw [worstR, if_pos h, cs_ends ho, maxI_perm ((ord_perm ho).map _), idx_max (fun a => fLate js a ((endsTo js os os.length).getD a.toNat 0)) (wlTo js (endsTo js os os.length)) rfl]
  intro k; simp [wlTo, fLate, jAt, due]
theorem late_cs {js : List J} {os : List Int} (h : okB js os = true) : lateR js os = sumI (cs js (fMany js) 0 os) := by
  have ho : ordB os js.length = true := by simp [okB] at h; exact h.2
  rw [lateR, if_pos h, cs_ends ho, sumI_perm ((ord_perm ho).map _), idx_sum (fun a => fMany js a ((endsTo js os os.length).getD a.toNat 0)) (manyTo js (endsTo js os os.length)) rfl]
  intro k; simp [manyTo, fMany, jAt, due]

/-- The order that is sorted is the best one, where an exchange of neighbours never helps. -/
theorem exchange {O : Int → List Int → Int} {s : Int → Int} {R : Int → Int → Prop}
    (mono : ∀ t a l l', O (t + s a) l ≤ O (t + s a) l' → O t (a :: l) ≤ O t (a :: l'))
    (swap : ∀ t a x l, R x a → O t (x :: a :: l) ≤ O t (a :: x :: l)) : ∀ l, l.Pairwise R → ∀ t l', l'.Perm l → O t l ≤ O t l' := by
  have front : ∀ A B x t, (∀ a ∈ A, R x a) → O t (x :: (A ++ B)) ≤ O t (A ++ x :: B) := by
    intro A
    induction A with
    | nil => intro B x t _; exact Int.le_refl _
    | cons a A ih =>
      intro B x t h
      exact Int.le_trans (swap t a x _ (h a (by simp))) (mono _ _ _ _ (ih B x _ fun b hb => h b (by simp [hb])))
  intro l
  induction l with
  | nil => intro _ t l' hp; rw [hp.eq_nil]; exact Int.le_refl _
  | cons x l ih =>
    intro hs t l' hp
    rw [List.pairwise_cons] at hs
    have hx : x ∈ l' := hp.mem_iff.2 (by simp)
    obtain ⟨A, B, rfl⟩ := List.append_of_mem hx
    have hp' : (A ++ B).Perm l := (List.perm_cons x).1 (List.perm_middle.symm.trans hp)
    have h1 := mono t x _ _ (ih hs.2 (t + s x) (A ++ B) hp')
    exact Int.le_trans h1 (front A B x t fun a ha => hs.1 a (hp'.mem_iff.1 (by simp [ha])))

theorem jv_ix {js : List J} (h : jsvB js = true) {a : Int} (ha : ix js a) : jvB (jAt js a) = true :=
  ok_at (ok := fun j => jvB j = true) (fun j hj => by simp [jsvB] at h; exact h.2 j hj) ha
theorem ok_due (js : List J) (h : jsvB js = true) : ∀ j ∈ js, jvB j = true := fun j hj => by simp [jsvB] at h; exact h.2 j hj

/-- An order of K is an order. -/
theorem order_ord {K : J → J → Int} (C : Cmp K fun j => jvB j = true) {js : List J} (h : jsvB js = true) : ordB (orderR K js) js.length = true := by
  have hs := so_sorted C (ok_due js h) js.length (Nat.le_refl _)
  rw [orderR, if_pos h]
  exact ord_iff.2 ⟨soTo_len _ _ _, RI_nodup C (ok_due js h) hs.1 hs.2.1, hs.1⟩
theorem order_ok {K : J → J → Int} (C : Cmp K fun j => jvB j = true) {js : List J} (h : jsvB js = true) : okB js (orderR K js) = true := by
  simp [okB, h, order_ord C h]
theorem order_sorted {K : J → J → Int} (C : Cmp K fun j => jvB j = true) {js : List J} (h : jsvB js = true) : (orderR K js).Pairwise fun a b => K (jAt js a) (jAt js b) ≤ 0 ∧ ix js a ∧ ix js b := by
  have hs := so_sorted C (ok_due js h) js.length (Nat.le_refl _)
  rw [orderR, if_pos h]
  refine List.Pairwise.imp_of_mem (fun ha hb hab => ⟨?_, hs.1 _ ha, hs.1 _ hb⟩) hs.2.1
  unfold RI at hab; omega
theorem perm_of_ok {js : List J} {o p : List Int} (h : okB js o = true) (k : okB js p = true) : o.Perm p := by
  simp only [okB, Bool.and_eq_true] at h k
  exact (ord_perm h.2).trans (ord_perm k.2).symm
theorem ok_jsv {js : List J} {os : List Int} (h : okB js os = true) : jsvB js = true := by simp [okB] at h; exact h.1
theorem ok_ord {js : List J} {os : List Int} (h : okB js os = true) : ordB os js.length = true := by simp [okB] at h; exact h.2

/-- Smith's rule. -/
theorem smith {js : List J} {os : List Int} (h : okB js os = true) : endSumR js (orderR kWeight js) ≤ endSumR js os := by
  have hv := ok_jsv h
  rw [endSum_cs h, endSum_cs (order_ok cmpWeight hv)]
  refine exchange (O := fun t l => sumI (cs js (fSum js) t l)) (s := spn js) (R := fun a b => kWeight (jAt js a) (jAt js b) ≤ 0 ∧ ix js a ∧ ix js b) ?_ ?_ _ (order_sorted cmpWeight hv) 0 os (perm_of_ok h (order_ok cmpWeight hv))
  · intro t a l l' hl; simp only [cs, sumI]; omega
  · rintro t a x l ⟨hk, -, -⟩
    simp only [cs, sumI, fSum]
    rw [show t + spn js x + spn js a = t + spn js a + spn js x by omega]
    unfold kWeight at hk
    simp only [Int.add_mul, spn] at hk ⊢
    omega
/-- The earliest due first. -/
theorem edd {js : List J} {os : List Int} (h : okB js os = true) : worstR js (orderR kDue js) ≤ worstR js os := by
  have hv := ok_jsv h
  rw [worst_cs h, worst_cs (order_ok cmpDue hv)]
  refine exchange (O := fun t l => maxI (cs js (fLate js) t l)) (s := spn js) (R := fun a b => kDue (jAt js a) (jAt js b) ≤ 0 ∧ ix js a ∧ ix js b) ?_ ?_ _ (order_sorted cmpDue hv) 0 os (perm_of_ok h (order_ok cmpDue hv))
  · intro t a l l' hl; simp only [cs, maxI]; omega
  · rintro t a x l ⟨hk, h1, h2⟩
    simp only [cs, maxI, fLate]
    rw [show t + spn js x + spn js a = t + spn js a + spn js x by omega]
    have := jvB_s (jv_ix hv h2)
    unfold kDue at hk
    simp only [spn, due] at hk ⊢
    omega
theorem sum_nn {js : List J} {os : List Int} (h : okB js os = true) : 0 ≤ endSumR js os := by
  have hv := ok_jsv h
  rw [endSumR, if_pos h]
  have ho := ok_ord h
  exact (endSum_bd hv (endsTo_length _ _ _) (fun k hk => ends_bd hv ho hk) _ (Nat.le_refl _)).1
theorem worst_nn {js : List J} {os : List Int} (h : okB js os = true) : 0 ≤ worstR js os := by rw [worst_cs h]; exact maxI_nn _
theorem late_nn {js : List J} {os : List Int} (h : okB js os = true) : 0 ≤ lateR js os := by
  rw [lateR, if_pos h]; exact (many_bd _).1

/-- Late at all exactly if a job is late. -/
theorem cs_late (js : List J) : ∀ t l, 0 ≤ sumI (cs js (fMany js) t l) ∧ (0 < maxI (cs js (fLate js) t l) ↔ 0 < sumI (cs js (fMany js) t l))
  | t, [] => by simp [cs, sumI, maxI]
  | t, a :: l => by
    obtain ⟨h1, h2⟩ := cs_late js (t + spn js a) l
    simp only [cs, sumI, maxI, fMany, fLate] at h1 h2 ⊢
    have := maxI_nn (cs js (fLate js) (t + spn js a) l)
    split <;> omega
theorem late_iff {js : List J} {os : List Int} (h : okB js os = true) : decide (0 < worstR js os) = decide (0 < lateR js os) := by
  rw [worst_cs h, late_cs h]
  rw [decide_eq_decide]
  exact (cs_late js 0 os).2

/-- Twice the weights. -/
def dbl (j : J) : J := ⟨j.s, j.d, 2 * j.g⟩
theorem jAt_map {f : J → J} (hf : f ⟨0, 0, 0⟩ = ⟨0, 0, 0⟩) (js : List J) (a : Int) : jAt (js.map f) a = f (jAt js a) := by
  unfold jAt
  rw [List.getD_eq_getElem?_getD, List.getD_eq_getElem?_getD, List.getElem?_map]
  cases js[a.toNat]? <;> simp [hf]
theorem dbl_sum (js : List J) : ∀ t l, sumI (cs (js.map dbl) (fSum (js.map dbl)) t l) = 2 * sumI (cs js (fSum js) t l)
  | t, [] => by simp [cs, sumI]
  | t, a :: l => by
    have e := jAt_map (f := dbl) rfl js a
    have es : spn (js.map dbl) a = spn js a := by simp [spn, e, dbl]
    simp only [cs, sumI, es, fSum, e]
    rw [dbl_sum js _ l]
    simp only [dbl]
    rw [Int.mul_left_comm]; omega
theorem dbl_end {js : List J} {os : List Int} (h : okB js os = true) : endSumR (js.map dbl) os < 0 ∨ endSumR (js.map dbl) os = 2 * endSumR js os := by
  cases hd : okB (js.map dbl) os with
  | false => left; simp [endSumR, hd]
  | true => right; rw [endSum_cs hd, endSum_cs h, dbl_sum]

/-- Later dues. -/
def ltr (j : J) : J := ⟨j.s, min (j.d + 1) 999, j.g⟩
theorem jsv_ltr {js : List J} (h : jsvB js = true) : jsvB (js.map ltr) = true := by
  simp only [jsvB, Bool.and_eq_true, decide_eq_true_eq, List.all_map, List.length_map] at h ⊢
  refine ⟨h.1, ?_⟩
  rw [List.all_eq_true] at h ⊢
  intro j hj
  have := h.2 j hj
  simp only [Function.comp, jvB, Bool.and_eq_true, wi_iff, ltr] at this ⊢
  omega
theorem ltr_many {js : List J} (hv : jsvB js = true) : ∀ t l, (∀ a ∈ l, ix js a) → sumI (cs (js.map ltr) (fMany (js.map ltr)) t l) ≤ sumI (cs js (fMany js) t l)
  | t, [], _ => by simp [cs, sumI]
  | t, a :: l, hl => by
    obtain ⟨x, rfl⟩ := Int.eq_ofNat_of_zero_le (hl a (by simp)).1
    have hx : x < js.length := by have := (hl _ (by simp : (x : Int) ∈ (x : Int) :: l)).2; omega
    have e : jAt (js.map ltr) (x : Int) = ltr (jAt js x) := by
      rw [jAt_lt (by simpa using hx), jAt_lt hx]; simp
    have es : spn (js.map ltr) x = spn js x := by simp [spn, e, ltr]
    have ed : due js x ≤ due (js.map ltr) x := by
      have := jvB_d (jv_ix hv (hl (x : Int) (by simp)))
      simp only [due, e, ltr]; omega
    have ih := ltr_many hv (t + spn js x) l fun a ha => hl a (by simp [ha])
    simp only [cs, sumI, es] at ih ⊢
    have : fMany (js.map ltr) (x : Int) (t + spn js x) ≤ fMany js (x : Int) (t + spn js x) := by
      unfold fMany
      split <;> split <;> omega
    omega
theorem ltr_late {js : List J} {os : List Int} (h : okB js os = true) : lateR (js.map ltr) os ≤ lateR js os := by
  have ho := ok_ord h
  have hk : okB (js.map ltr) os = true := by simp [okB, jsv_ltr (ok_jsv h), ho]
  rw [late_cs hk, late_cs h]
  exact ltr_many (ok_jsv h) 0 os (ord_iff.1 ho).2.2
end Go.Proofs.YtfjemnjdkniibaaDoor
