/-
  Two lines: the least end, and long ones first at most seven sixths of it. No program in sight.
-/
import Derived.Test.YtfjemnjdkniibaaDoorWalkD
import Derived.Test.YtfjemnjdkniibaaDoorPlainCost
namespace Go.Proofs.YtfjemnjdkniibaaDoor

theorem best_le (js : List J) : ∀ N m : Nat, m ≤ N → bestTo js N ≤ twoEndR js m
  | 0, m, h => by obtain rfl : m = 0 := by omega
                  exact Int.le_refl _
  | N + 1, m, h => by
    simp only [bestTo]
    by_cases e : m = N + 1
    · subst e; rw [show ((N + 1 : Nat) : Int) = (N : Int) + 1 by omega]; omega
    · have := best_le js N m (by omega); omega
theorem best_is (js : List J) : ∀ N : Nat, ∃ m : Nat, m ≤ N ∧ bestTo js N = twoEndR js m
  | 0 => ⟨0, by omega, rfl⟩
  | N + 1 => by
    obtain ⟨m, h1, h2⟩ := best_is js N
    simp only [bestTo]
    rcases Int.le_total (bestTo js N) (twoEndR js ((N : Int) + 1)) with h | h
    · exact ⟨m, by omega, by rw [Int.min_eq_left h, h2]⟩
    · exact ⟨N + 1, by omega, by rw [Int.min_eq_right h]; congr 1⟩
theorem pow_nat (n : Nat) : ((2 ^ n : Nat) : Int) = (2 : Int) ^ n := by simp
theorem pow_pos (n : Nat) : 1 ≤ (2 : Nat) ^ n := Nat.pow_pos (by omega)
theorem twoEnd_in {js : List J} (h : jsvB js = true) {set : Int} (h0 : 0 ≤ set) (h1 : set < 2 ^ js.length) : twoEndR js set = twoEndI js set := by
  have hw : wi set 0 (2 ^ js.length - 1) = true := wi_iff.2 ⟨h0, by omega⟩
  simp [twoEndR, h, hw]
theorem twoEnd_out {js : List J} {set : Int} (h : 0 ≤ twoEndR js set) : jsvB js = true ∧ 0 ≤ set ∧ set < 2 ^ js.length := by
  unfold twoEndR at h
  split at h
  · rename_i hc
    rw [Bool.and_eq_true, wi_iff] at hc
    exact ⟨hc.1, hc.2.1, by omega⟩
  · omega
theorem twoBest_le {js : List J} {set : Int} (h : 0 ≤ twoEndR js set) : 0 ≤ twoBestR js ∧ twoBestR js ≤ twoEndR js set := by
  obtain ⟨hv, h0, h1⟩ := twoEnd_out h
  rw [twoBestR, if_pos hv]
  obtain ⟨m, rfl⟩ := Int.eq_ofNat_of_zero_le h0
  have hp := pow_nat js.length
  have hq := pow_pos js.length
  exact ⟨(bestTo_bd hv _ (by omega)).1, best_le js _ m (by omega)⟩

theorem bit_flip : ∀ n : Nat, n ≤ 6 → ∀ s : Nat, s < 2 ^ n → ∀ k : Nat, k < n → (2 ^ n - 1 - s) / 2 ^ k % 2 = 1 - s / 2 ^ k % 2 := by decide +kernel
theorem bitSum_flip {js : List J} (hl : js.length ≤ 6) {s : Nat} (hs : s < 2 ^ js.length) (b : Int) (hb : b = 0 ∨ b = 1) : ∀ k, k ≤ js.length → bitSum ((2 ^ js.length - 1 - s : Nat) : Int) b js k = bitSum (s : Int) (1 - b) js k
  | 0, _ => rfl
  | k + 1, hk => by
    simp only [bitSum]
    rw [bitSum_flip hl hs b hb k (by omega)]
    have h := bit_flip js.length hl s hs k (by omega)
    have e1 : ((2 ^ js.length - 1 - s : Nat) : Int) / 2 ^ k % 2 = (((2 ^ js.length - 1 - s) / 2 ^ k % 2 : Nat) : Int) := by rw [← pow_nat k]; omega
    have e2 : (s : Int) / 2 ^ k % 2 = ((s / 2 ^ k % 2 : Nat) : Int) := by rw [← pow_nat k]; omega
    rw [e1, e2, h]
    have : s / 2 ^ k % 2 = 0 ∨ s / 2 ^ k % 2 = 1 := by omega
    congr 1
    rcases hb with rfl | rfl <;> rcases this with h | h <;> simp [h]
theorem twoEnd_flip {js : List J} {set : Int} (h : 0 ≤ twoEndR js set) : twoEndR js (2 ^ js.length - 1 - set) = twoEndR js set := by
  obtain ⟨hv, h0, h1⟩ := twoEnd_out h
  obtain ⟨s, rfl⟩ := Int.eq_ofNat_of_zero_le h0
  have hp := pow_nat js.length
  have hs : s < 2 ^ js.length := by omega
  have hl := jsvB_len hv
  have e : (2 : Int) ^ js.length - 1 - (s : Int) = ((2 ^ js.length - 1 - s : Nat) : Int) := by omega
  rw [twoEnd_in hv h0 h1, e, twoEnd_in hv (by omega) (by omega), twoEndI, twoEndI, bitSum_flip hl hs 0 (.inl rfl) _ (Nat.le_refl _), bitSum_flip hl hs 1 (.inr rfl) _ (Nat.le_refl _)]
  exact Int.max_comm _ _

def spanTo (js : List J) : Nat → Int
  | 0 => 0
  | k + 1 => spanTo js k + (js.getD k ⟨0, 0, 0⟩).s
def maxTo (js : List J) : Nat → Int
  | 0 => 0
  | k + 1 => max (maxTo js k) (js.getD k ⟨0, 0, 0⟩).s
theorem span_succ {js : List J} {k : Nat} (h : k < js.length) : spanTo js (k + 1) = spanTo js k + js[k].s := by simp [spanTo, h]
theorem max_succ {js : List J} {k : Nat} (h : k < js.length) : maxTo js (k + 1) = max (maxTo js k) js[k].s := by simp [maxTo, h]
theorem span_bd {js : List J} (h : jsvB js = true) : ∀ k, k ≤ js.length → 0 ≤ spanTo js k ∧ spanTo js k ≤ 99 * k
  | 0, _ => by simp [spanTo]
  | k + 1, hk => by
    have := span_bd h k (by omega)
    rw [span_succ (by omega)]
    have := jvB_s (jsvB_at h (show k < js.length by omega))
    omega
theorem max_bd {js : List J} (h : jsvB js = true) : ∀ k, k ≤ js.length → 0 ≤ maxTo js k ∧ maxTo js k ≤ 99
  | 0, _ => by simp [maxTo]
  | k + 1, hk => by
    have := max_bd h k (by omega)
    rw [max_succ (by omega)]
    have := jvB_s (jsvB_at h (show k < js.length by omega))
    omega
theorem two_sides {js : List J} (h : jsvB js = true) (set : Int) : ∀ k, k ≤ js.length → bitSum set 0 js k + bitSum set 1 js k = spanTo js k ∧ maxTo js k ≤ max (bitSum set 0 js k) (bitSum set 1 js k)
  | 0, _ => by simp [bitSum, spanTo, maxTo]
  | k + 1, hk => by
    obtain ⟨h1, h2⟩ := two_sides h set k (by omega)
    have hlt : k < js.length := by omega
    rw [span_succ hlt, max_succ hlt]
    have hs := jvB_s (jsvB_at h hlt)
    have b0 := bitSum_bd (set := set) (b := 0) h k (by omega)
    have b1 := bitSum_bd (set := set) (b := 1) h k (by omega)
    by_cases hb : set / 2 ^ k % 2 = 0
    · rw [bitSum_hit hb hlt, bitSum_miss (b := 1) (by omega) hlt]; omega
    · rw [bitSum_miss (b := 0) hb hlt, bitSum_hit (b := 1) (by omega) hlt]; omega
theorem twoBest_ok {js : List J} (h : jsvB js = true) : spanTo js js.length ≤ 2 * twoBestR js ∧ maxTo js js.length ≤ twoBestR js ∧ twoBestR js ≤ spanTo js js.length := by
  rw [twoBestR, if_pos h]
  obtain ⟨m, h1, h2⟩ := best_is js (2 ^ js.length - 1)
  have hp := pow_nat js.length
  have hq := pow_pos js.length
  rw [h2, twoEnd_in h (by omega) (by omega), twoEndI]
  obtain ⟨a, b⟩ := two_sides h m js.length (Nat.le_refl _)
  have b0 := bitSum_bd (set := m) (b := 0) h js.length (Nat.le_refl _)
  have b1 := bitSum_bd (set := m) (b := 1) h js.length (Nat.le_refl _)
  omega
theorem twoBest_bad {js : List J} : twoBestR js < 0 → twoBestR js = -1 ∧ jsvB js = false := by
  intro h
  cases hv : jsvB js with
  | false => simp [twoBestR, hv]
  | true =>
    rw [twoBestR, if_pos hv] at h
    have hp := pow_nat js.length
    have hq := pow_pos js.length
    have := (bestTo_bd hv (2 ^ js.length - 1) (by omega)).1
    omega

/-- The spans of those of a list that c takes. -/
def sd (js : List J) (c : Int → Bool) : List Int → Int
  | [] => 0
  | a :: l => (if c a then spn js a else 0) + sd js c l
theorem sd_append (js : List J) (c : Int → Bool) : ∀ l m, sd js c (l ++ m) = sd js c l + sd js c m
  | [], m => by simp [sd]
  | a :: l, m => by simp [sd, sd_append js c l m, Int.add_assoc]
theorem sd_perm (js : List J) (c : Int → Bool) {l m : List Int} (h : l.Perm m) : sd js c l = sd js c m := by
  induction h with
  | nil => rfl
  | cons a _ ih => simp [sd, ih]
  | swap a b l => simp only [sd]; omega
  | trans _ _ h1 h2 => omega
theorem sd_two (js : List J) (c : Int → Bool) : ∀ l, sd js c l + sd js (fun a => !c a) l = spns js l
  | [] => by simp [sd, spns]
  | a :: l => by
    have := sd_two js c l
    simp only [sd, spns]
    rcases Bool.eq_false_or_eq_true (c a) with h | h <;> simp [h] <;> omega
theorem sd_nn (js : List J) (c : Int → Bool) : ∀ l, (∀ a ∈ l, 0 ≤ spn js a) → 0 ≤ sd js c l
  | [], _ => by simp [sd]
  | a :: l, h => by
    have := sd_nn js c l fun b hb => h b (by simp [hb])
    have := h a (by simp)
    simp only [sd]
    split <;> omega
theorem sd_count (js : List J) (c : Int → Bool) (p : Int) : ∀ l, (∀ a ∈ l, p ≤ spn js a) → (l.countP c : Int) * p ≤ sd js c l
  | [], _ => by simp [sd]
  | a :: l, h => by
    have := sd_count js c p l fun b hb => h b (by simp [hb])
    have := h a (by simp)
    simp only [sd, List.countP_cons]
    cases c a
    · simpa using by omega
    · simp [Int.add_mul]; omega
theorem sh_sum (js : List J) (l : List Int) : (sh js l).1 + (sh js l).2.1 = spns js l := by
  refine snoc_ind (P := fun l => (sh js l).1 + (sh js l).2.1 = spns js l) (by simp [sh, spns]) (fun l a ih => ?_) l
  rw [sh_snoc, spns_append]
  unfold shStep
  simp only [spns, spn]
  split <;> simp <;> omega

/-- The two sums alone. -/
def ld (st : Int × Int) (p : Int) : Int × Int := if st.1 ≤ st.2 then (st.1 + p, st.2) else (st.1, st.2 + p)
theorem sh_ld (js : List J) (l : List Int) : ((sh js l).1, (sh js l).2.1) = (l.map (spn js)).foldl ld (0, 0) := by
  refine snoc_ind (P := fun l => ((sh js l).1, (sh js l).2.1) = (l.map (spn js)).foldl ld (0, 0)) rfl (fun l a ih => ?_) l
  rw [sh_snoc, List.map_append, List.foldl_append, ← ih]
  simp only [shStep, List.map_cons, List.map_nil, List.foldl_cons, List.foldl_nil, ld, spn]
  split <;> rfl
/-- The spans of those on one side, the spans and the sides in a list. -/
def sdb : List (Int × Bool) → Int
  | [] => 0
  | (p, true) :: l => p + sdb l
  | (_, false) :: l => sdb l
def sdc : List (Int × Bool) → Int
  | [] => 0
  | (_, true) :: l => sdc l
  | (p, false) :: l => p + sdc l
theorem sd_sdb (js : List J) (c : Int → Bool) : ∀ l, sd js c l = sdb (l.map fun a => (spn js a, c a)) ∧ sd js (fun a => !c a) l = sdc (l.map fun a => (spn js a, c a))
  | [] => ⟨rfl, rfl⟩
  | a :: l => by
    obtain ⟨h1, h2⟩ := sd_sdb js c l
    simp only [sd, List.map_cons]
    rcases Bool.eq_false_or_eq_true (c a) with h | h <;> simp [h, sdb, sdc, h1, h2]
theorem few1 (P X : Int) (b1 b2 : Bool) (_ : 0 ≤ P) (h1 : P ≤ X) (hA : sdb [(X, b1), (P, b2)] < 3 * P) (hB : sdc [(X, b1), (P, b2)] < 3 * P) :
    min (ld (0, 0) X).1 (ld (0, 0) X).2 + P ≤ max (sdb [(X, b1), (P, b2)]) (sdc [(X, b1), (P, b2)]) := by
  cases b1 <;> cases b2 <;> simp [sdb, sdc, ld] at * <;> omega
theorem few2 (P X Y : Int) (b1 b2 b3 : Bool) (_ : 0 ≤ P) (h1 : P ≤ Y) (h2 : Y ≤ X) (hA : sdb [(X, b1), (Y, b2), (P, b3)] < 3 * P) (hB : sdc [(X, b1), (Y, b2), (P, b3)] < 3 * P) :
    min (ld (ld (0, 0) X) Y).1 (ld (ld (0, 0) X) Y).2 + P ≤ max (sdb [(X, b1), (Y, b2), (P, b3)]) (sdc [(X, b1), (Y, b2), (P, b3)]) := by
  cases b1 <;> cases b2 <;> cases b3 <;> simp only [sdb, sdc, ld] at * <;> (repeat' split) <;> simp at * <;> omega
theorem few3 (P X Y Z : Int) (b1 b2 b3 b4 : Bool) (_ : 0 ≤ P) (h0 : P ≤ Z) (h1 : Z ≤ Y) (h2 : Y ≤ X) (hA : sdb [(X, b1), (Y, b2), (Z, b3), (P, b4)] < 3 * P) (hB : sdc [(X, b1), (Y, b2), (Z, b3), (P, b4)] < 3 * P) :
    min (ld (ld (ld (0, 0) X) Y) Z).1 (ld (ld (ld (0, 0) X) Y) Z).2 + P ≤ max (sdb [(X, b1), (Y, b2), (Z, b3), (P, b4)]) (sdc [(X, b1), (Y, b2), (Z, b3), (P, b4)]) := by
  cases b1 <;> cases b2 <;> cases b3 <;> cases b4 <;> simp only [sdb, sdc] at * <;> first | omega | (simp only [ld] at * <;> (repeat' split) <;> simp at * <;> omega)
theorem lpt_few {js : List J} (c : Int → Bool) (l : List Int) (a : Int) (hp : 0 ≤ spn js a) (h3 : l.length ≤ 3) (hs : l.Pairwise fun a b => spn js b ≤ spn js a) (hl : ∀ b ∈ l, spn js a ≤ spn js b)
    (hA : sd js c (l ++ [a]) < 3 * spn js a) (hB : sd js (fun a => !c a) (l ++ [a]) < 3 * spn js a) :
    min (sh js l).1 (sh js l).2.1 + spn js a ≤ max (sd js c (l ++ [a])) (sd js (fun a => !c a) (l ++ [a])) := by
  have e1 : (sh js l).1 = ((l.map (spn js)).foldl ld (0, 0)).1 := by rw [← sh_ld]
  have e2 : (sh js l).2.1 = ((l.map (spn js)).foldl ld (0, 0)).2 := by rw [← sh_ld]
  rw [(sd_sdb js c _).1, (sd_sdb js c _).2] at *
  rw [e1, e2]
  match l, h3 with
  | [], _ =>
    simp only [List.nil_append, List.map_cons, List.map_nil, List.foldl_nil] at *
    generalize c a = b at *
    cases b <;> simp [sdb, sdc] at * <;> omega
  | [x], _ => exact few1 _ _ _ _ hp (hl x (by simp)) hA hB
  | [x, y], _ => exact few2 _ _ _ _ _ _ hp (hl y (by simp)) (by simpa using hs) hA hB
  | [x, y, z], _ =>
    have hxyz : (spn js y ≤ spn js x ∧ spn js z ≤ spn js x) ∧ spn js z ≤ spn js y := by simpa using hs
    exact few3 _ _ _ _ _ _ _ _ hp (hl z (by simp)) hxyz.2 hxyz.1.1 hA hB

/-- Long ones first is nearly best. -/
theorem lpt {js : List J} (c : Int → Bool) (l : List Int) : (∀ a ∈ l, 0 ≤ spn js a) → (l.Pairwise fun a b => spn js b ≤ spn js a) → 6 * max (sh js l).1 (sh js l).2.1 ≤ 7 * max (sd js c l) (sd js (fun a => !c a) l) := by
  refine snoc_ind (P := fun l => (∀ a ∈ l, 0 ≤ spn js a) → (l.Pairwise fun a b => spn js b ≤ spn js a) → 6 * max (sh js l).1 (sh js l).2.1 ≤ 7 * max (sd js c l) (sd js (fun a => !c a) l)) ?_ ?_ l
  · intro _ _; simp [sh, sd]
  · intro l a ih h1 h2
    rw [List.pairwise_append] at h2
    have ihl := ih (fun b hb => h1 b (by simp [hb])) h2.1
    have hp := h1 a (by simp)
    have hl : ∀ b ∈ l, spn js a ≤ spn js b := fun b hb => h2.2.2 b hb a (by simp)
    have n1 := sd_nn js c l fun b hb => h1 b (by simp [hb])
    have n2 := sd_nn js (fun a => !c a) l fun b hb => h1 b (by simp [hb])
    have htot := sd_two js c (l ++ [a])
    have hsum := sh_sum js l
    have hmono : max (sd js c l) (sd js (fun a => !c a) l) ≤ max (sd js c (l ++ [a])) (sd js (fun a => !c a) (l ++ [a])) := by
      rw [sd_append, sd_append]
      simp only [sd]
      rcases Bool.eq_false_or_eq_true (c a) with h | h <;> simp [h] <;> omega
    have hcrit : 6 * (min (sh js l).1 (sh js l).2.1 + spn js a) ≤ 7 * max (sd js c (l ++ [a])) (sd js (fun a => !c a) (l ++ [a])) := by
      rw [spns_append] at htot
      simp only [spns] at htot
      by_cases h3 : 3 * spn js a ≤ max (sd js c (l ++ [a])) (sd js (fun a => !c a) (l ++ [a]))
      · omega
      · have hall : ∀ b ∈ l ++ [a], spn js a ≤ spn js b := fun b hb => by
          rcases List.mem_append.1 hb with h | h
          · exact hl b h
          · rw [List.mem_singleton] at h; subst h; exact Int.le_refl _
        have hpos : 0 < spn js a := by omega
        have c1 := sd_count js c (spn js a) _ hall
        have c2 := sd_count js (fun a => !c a) (spn js a) _ hall
        have hc1 : ((l ++ [a]).countP c : Int) < 3 := by
          refine Int.lt_of_mul_lt_mul_right (a := spn js a) ?_ (by omega)
          omega
        have hc2 : ((l ++ [a]).countP (fun a => !c a) : Int) < 3 := by
          refine Int.lt_of_mul_lt_mul_right (a := spn js a) ?_ (by omega)
          omega
        have hlen : (l ++ [a]).length = (l ++ [a]).countP c + (l ++ [a]).countP (fun a => !c a) := by
          rw [List.length_eq_countP_add_countP c]
          congr 1
          refine List.countP_congr fun x _ => by simp
        have hll : l.length ≤ 3 := by simp only [List.length_append, List.length_singleton] at hlen; omega
        have := lpt_few c l a hp hll h2.1 hl (by omega) (by omega)
        omega
    rw [sh_snoc]
    unfold shStep
    have e : (jAt js a).s = spn js a := rfl
    split
    · simp only [e]; omega
    · simp only [e]; omega
theorem sd_congr (js : List J) {c c' : Int → Bool} : ∀ l, (∀ a ∈ l, c a = c' a) → sd js c l = sd js c' l
  | [], _ => rfl
  | a :: l, h => by simp only [sd, h a (by simp), sd_congr js l fun b hb => h b (by simp [hb])]
theorem bitSum_sd (js : List J) (set b : Int) : ∀ n, bitSum set b js n = sd js (fun a => decide (set / 2 ^ a.toNat % 2 = b)) (idx n)
  | 0 => rfl
  | n + 1 => by
    rw [idx_succ, sd_append, ← bitSum_sd js set b n]
    simp only [bitSum, sd, Int.toNat_natCast, decide_eq_true_eq, spn, jAt, Int.add_zero]
theorem bit_is (s k : Nat) : s.testBit k = decide ((s : Int) / 2 ^ k % 2 = 1) := by
  rw [Nat.testBit_eq_decide_div_mod_eq, decide_eq_decide]
  have e : (s : Int) / 2 ^ k % 2 = ((s / 2 ^ k % 2 : Nat) : Int) := by rw [← pow_nat k]; omega
  rw [e]; omega
theorem bit_not (s k : Nat) : (!s.testBit k) = decide ((s : Int) / 2 ^ k % 2 = 0) := by
  rw [Nat.testBit_eq_decide_div_mod_eq]
  have e : (s : Int) / 2 ^ k % 2 = ((s / 2 ^ k % 2 : Nat) : Int) := by rw [← pow_nat k]; omega
  rw [e]
  have : s / 2 ^ k % 2 = 0 ∨ s / 2 ^ k % 2 = 1 := by omega
  rcases this with h | h <;> simp [h]
/-- TwoEnd of a number, over any order of the jobs. -/
theorem twoEnd_sd {js : List J} {l : List Int} (hl : l.Perm (idx js.length)) (s : Nat) :
    twoEndI js s = max (sd js (fun a => !s.testBit a.toNat) l) (sd js (fun a => s.testBit a.toNat) l) := by
  rw [twoEndI, bitSum_sd, bitSum_sd, sd_perm js _ hl, sd_perm js _ hl]
  congr 1
  · exact sd_congr js _ fun a _ => (bit_not s a.toNat).symm
  · exact sd_congr js _ fun a _ => (bit_is s a.toNat).symm
theorem sh_bits {js : List J} (hs : ∀ j ∈ js, jvB j = true) (hn : js.length ≤ 6) (l : List Int) : (∀ a ∈ l, ix js a) → l.Nodup →
    (sh js l).1 = sd js (fun a => !(sh js l).2.2.testBit a.toNat) l ∧ (sh js l).2.1 = sd js (fun a => (sh js l).2.2.testBit a.toNat) l := by
  refine snoc_ind (P := fun l => (∀ a ∈ l, ix js a) → l.Nodup →
    (sh js l).1 = sd js (fun a => !(sh js l).2.2.testBit a.toNat) l ∧ (sh js l).2.1 = sd js (fun a => (sh js l).2.2.testBit a.toNat) l) (fun _ _ => ⟨rfl, rfl⟩) (fun l a ih h1 h2 => ?_) l
  have hl : ∀ x ∈ l, ix js x := fun x hx => h1 x (by simp [hx])
  have ha : ix js a := h1 a (by simp)
  rw [List.nodup_append] at h2
  obtain ⟨i1, i2⟩ := ih hl h2.1
  obtain ⟨-, -, -, i4, i5⟩ := sh_ok hs hn l hl h2.1
  have hal : a ∉ l := fun hm => h2.2.2 a hm a (by simp) rfl
  obtain ⟨an, rfl⟩ := Int.eq_ofNat_of_zero_le ha.1
  have han : an < 6 := by have := ha.2; omega
  obtain ⟨-, -, b3⟩ := bit_add _ i4 an han (i5 an han hal)
  have hbit := i5 an han hal
  rw [sh_snoc, sd_append, sd_append]
  unfold shStep
  have e : (jAt js an).s = spn js an := rfl
  split
  · simp only [sd, Int.toNat_natCast, hbit, e]
    rw [← i1, ← i2]; simp
  · simp only [sd, Int.toNat_natCast, e]
    have hb : ∀ x ∈ l, ((sh js l).2.2 + 2 ^ an).testBit x.toNat = (sh js l).2.2.testBit x.toNat := fun x hx => by
      obtain ⟨h0, h1'⟩ := hl x hx
      rw [b3 x.toNat (by omega)]
      have : x.toNat ≠ an := fun e => hal (by rw [← e, Int.toNat_of_nonneg h0]; exact hx)
      simp [this]
    rw [sd_congr js l (c := fun a => !((sh js l).2.2 + 2 ^ an).testBit a.toNat) (c' := fun a => !(sh js l).2.2.testBit a.toNat) fun x hx => by rw [hb x hx], sd_congr js l (c := fun a => ((sh js l).2.2 + 2 ^ an).testBit a.toNat) (c' := fun a => (sh js l).2.2.testBit a.toNat) hb, ← i1, ← i2]
    have hb2 : ((sh js l).2.2 + 2 ^ an).testBit an = true := by rw [b3 an han]; simp
    simp [hb2]
theorem long_lt {js : List J} (h : jsvB js = true) {l : List Int} (hl : l.Perm (idx js.length)) : (sh js l).2.2 < 2 ^ js.length := by
  have hs := ok_due js h
  have hn := jsvB_len h
  have hmem : ∀ a ∈ l, ix js a := fun a ha => idx_mem.1 (hl.mem_iff.1 ha)
  obtain ⟨-, -, -, i4, i5⟩ := sh_ok hs hn l hmem (hl.nodup_iff.2 (idx_nodup _))
  refine Nat.lt_pow_two_of_testBit _ fun i hi => ?_
  by_cases h6 : i < 6
  · exact i5 i h6 fun hm => by have := (hmem _ hm).2; omega
  · exact Nat.testBit_lt_two_pow (Nat.lt_of_lt_of_le i4 (show 2 ^ 6 ≤ 2 ^ i from Nat.pow_le_pow_right (by omega) (by omega)))
theorem twoLong_ok {js : List J} (h : jsvB js = true) : 0 ≤ longR js ∧ 0 ≤ twoEndR js (longR js) ∧ 6 * twoEndR js (longR js) ≤ 7 * twoBestR js := by
  have hn := jsvB_len h
  have hs := ok_due js h
  have ho := order_ord cmpSpan h
  have hp := ord_perm ho
  have hord := order_sorted cmpSpan h
  have e : longR js = ((sh js (orderR kSpan js)).2.2 : Nat) := by simp [longR, orderR, h]
  have hlt := long_lt h hp
  have hpn := pow_nat js.length
  rw [e, twoEnd_in h (by omega) (by omega)]
  have hmem : ∀ a ∈ orderR kSpan js, ix js a := fun a ha => idx_mem.1 (hp.mem_iff.1 ha)
  obtain ⟨s1, s2⟩ := sh_bits hs hn _ hmem (hp.nodup_iff.2 (idx_nodup _))
  obtain ⟨m, m1, m2⟩ := best_is js (2 ^ js.length - 1)
  have hb : twoBestR js = twoEndI js m := by
    have hq := pow_pos js.length
    rw [twoBestR, if_pos h, m2, twoEnd_in h (by omega) (by omega)]
  have hnn : ∀ a ∈ orderR kSpan js, 0 ≤ spn js a := fun a ha => by
    have := jvB_s (jv_ix h (hmem a ha)); simp only [spn]; omega
  rw [hb, twoEnd_sd hp, twoEnd_sd hp, ← s1, ← s2]
  refine ⟨by omega, ?_, ?_⟩
  · have := (sh_ok hs hn _ hmem (hp.nodup_iff.2 (idx_nodup _))).1; omega
  · have := lpt (fun a => !m.testBit a.toNat) (orderR kSpan js) hnn (hord.imp fun hk => by
      have := hk.1; unfold kSpan at this; simp only [spn]; omega)
    simpa using this
end Go.Proofs.YtfjemnjdkniibaaDoor
