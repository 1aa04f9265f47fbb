/-
  Sets of jobs, by numbers: of all that can be on time the most, and the one that is kept. No program in sight.
-/
import Derived.Test.YtfjemnjdkniibaaDoorPlainMoore
namespace Go.Proofs.YtfjemnjdkniibaaDoor
/-- The indices below k whose bit is set. -/
def sel (s k : Nat) : List Int := (idx k).filter fun a => s.testBit a.toNat
theorem sel_succ (s k : Nat) : sel s (k + 1) = if s.testBit k then sel s k ++ [(k : Int)] else sel s k := by
  unfold sel
  rw [idx_succ, List.filter_append]
  simp only [List.filter_cons, List.filter_nil, Int.toNat_natCast]
  split <;> simp
theorem sel_mem {s n : Nat} {a : Int} : a ∈ sel s n ↔ (0 ≤ a ∧ a < (n : Int)) ∧ s.testBit a.toNat = true := by
  unfold sel
  rw [List.mem_filter, idx_mem]
theorem sel_nodup (s n : Nat) : (sel s n).Nodup := (idx_nodup n).filter _
theorem sel_len (s n : Nat) : (sel s n).length ≤ n := by
  have := List.length_filter_le (fun a : Int => s.testBit a.toNat) (idx n)
  rw [idx_len] at this; exact this
theorem some_set (f : Nat → Bool) : ∀ n, ∃ s, s < 2 ^ n ∧ ∀ i, i < n → s.testBit i = f i
  | 0 => ⟨0, by simp, fun i h => absurd h (Nat.not_lt_zero i)⟩
  | n + 1 => by
    obtain ⟨s, h1, h2⟩ := some_set f n
    have hp : 2 ^ n < 2 ^ (n + 1) := Nat.pow_lt_pow_right (by omega) (by omega)
    cases hf : f n with
    | false =>
      refine ⟨s, by omega, fun i hi => ?_⟩
      by_cases e : i = n
      · subst e; rw [hf]; exact Nat.testBit_lt_two_pow h1
      · exact h2 i (by omega)
    | true =>
      refine ⟨s ||| 2 ^ n, Nat.or_lt_two_pow (by omega) hp, fun i hi => ?_⟩
      rw [Nat.testBit_or, Nat.testBit_two_pow]
      by_cases e : i = n
      · subst e; simp [hf]
      · rw [h2 i (by omega)]
        have : ¬ n = i := fun h => e h.symm
        simp [this]

def goodB (js : List J) (s : Nat) : Bool := decide (lateR (part js (sel s js.length)) (orderR kDue (part js (sel s js.length))) = 0)
def sameTo (ks : List Int) (s m k : Nat) : Bool := decide (m = ks.length) && (ks.take k).all fun a => s.testBit a.toNat
def sameB (js : List J) (ks : List Int) (s : Nat) : Bool := sameTo ks s (sel s js.length).length ks.length
def gBest (js : List J) : Nat → Int
  | 0 => 0
  | s + 1 => if goodB js s then max (gBest js s) (sel s js.length).length else gBest js s
def gKept (js : List J) (ks : List Int) : Nat → Int
  | 0 => 0
  | s + 1 => gKept js ks s + if sameB js ks s && goodB js s then 1 else 0
theorem gBest_bd (js : List J) : ∀ N, 0 ≤ gBest js N ∧ gBest js N ≤ js.length
  | 0 => by simp [gBest]
  | s + 1 => by
    have := gBest_bd js s
    have := sel_len s js.length
    simp only [gBest]
    split <;> omega
theorem gKept_bd (js : List J) (ks : List Int) : ∀ N, 0 ≤ gKept js ks N ∧ gKept js ks N ≤ N
  | 0 => by simp [gKept]
  | s + 1 => by
    have := gKept_bd js ks s
    simp only [gKept]
    split <;> omega
theorem good_iff {js : List J} (hv : jsvB js = true) (s : Nat) : goodB js s = true ↔ fz js (sel s js.length) := by
  have hl := sel_len s js.length
  have h6 := jsvB_len hv
  unfold goodB
  rw [decide_eq_true_eq]
  exact part_good hv (fun a ha => (sel_mem.1 ha).1) (by omega)
theorem best_ge {js : List J} {s : Nat} (h : goodB js s = true) : ∀ N, s < N → ((sel s js.length).length : Int) ≤ gBest js N
  | 0, h0 => absurd h0 (Nat.not_lt_zero s)
  | N + 1, h0 => by
    simp only [gBest]
    by_cases e : s = N
    · subst e; rw [if_pos h]; omega
    · have := best_ge h N (by omega)
      split <;> omega
theorem best_le' {js : List J} {m : Nat} (h : ∀ s, goodB js s = true → (sel s js.length).length ≤ m) : ∀ N, gBest js N ≤ m
  | 0 => by simp [gBest]
  | N + 1 => by
    have := best_le' h N
    simp only [gBest]
    split
    · rename_i hg; have := h N hg; omega
    · exact this
theorem kept_one {js : List J} {ks : List Int} {s0 : Nat} : ∀ N, (∀ s, s < N → ((sameB js ks s && goodB js s) = true ↔ s = s0)) → gKept js ks N = if s0 < N then 1 else 0
  | 0, _ => by simp [gKept]
  | N + 1, h => by
    have ih := kept_one N fun s hs => h s (by omega)
    have hN := h N (by omega)
    simp only [gKept]
    rw [ih]
    by_cases e : N = s0
    · subst e
      rw [hN.2 rfl]; simp
    · have : ¬ (sameB js ks N && goodB js N) = true := fun h => e (hN.1 h)
      rw [if_neg this]
      by_cases h1 : s0 < N
      · rw [if_pos h1, if_pos (by omega)]; rfl
      · rw [if_neg h1, if_neg (by omega)]; rfl
theorem onTime_law {js : List J} (hv : jsvB js = true) : gBest js (2 ^ js.length) = (onTimeR js).length ∧ gKept js (onTimeR js) (2 ^ js.length) = 1 := by
  obtain ⟨k1, k2, k3, k4⟩ := onTime_facts hv
  obtain ⟨s0, hs0, hb0⟩ := some_set (fun i => decide ((i : Int) ∈ onTimeR js)) js.length
  have hbit : ∀ s, s < 2 ^ js.length → ((∀ a ∈ sel s js.length, a ∈ onTimeR js) ∧ (∀ a ∈ onTimeR js, a ∈ sel s js.length) ↔ s = s0) := by
    intro s hs
    constructor
    · rintro ⟨h1, h2⟩
      refine Nat.eq_of_testBit_eq fun i => ?_
      by_cases hi : i < js.length
      · rw [hb0 i hi, Bool.eq_iff_iff, decide_eq_true_eq]
        constructor
        · exact fun h => h1 i (sel_mem.2 ⟨⟨by omega, by omega⟩, by simpa using h⟩)
        · exact fun h => by have := (sel_mem.1 (h2 i h)).2; simpa using this
      · have hp := Nat.pow_le_pow_right (show 0 < 2 by omega) (show js.length ≤ i by omega)
        rw [Nat.testBit_lt_two_pow (by omega), Nat.testBit_lt_two_pow (by omega)]
    · rintro rfl
      constructor
      · intro a ha
        obtain ⟨⟨h0, h1⟩, h2⟩ := sel_mem.1 ha
        rw [hb0 _ (by omega), decide_eq_true_eq, Int.toNat_of_nonneg h0] at h2
        exact h2
      · intro a ha
        obtain ⟨h0, h1⟩ := k1 a ha
        exact sel_mem.2 ⟨⟨h0, h1⟩, by rw [hb0 _ (by omega), decide_eq_true_eq, Int.toNat_of_nonneg h0]; exact ha⟩
  have hperm : (sel s0 js.length).Perm (onTimeR js) := by
    obtain ⟨h1, h2⟩ := (hbit s0 hs0).2 rfl
    exact (List.perm_ext_iff_of_nodup (sel_nodup _ _) k2).2 fun a => ⟨h1 a, h2 a⟩
  have hgood : goodB js s0 = true := (good_iff hv s0).2 (fz_perm hperm.symm k3)
  constructor
  · have h1 := best_ge hgood (2 ^ js.length) hs0
    rw [hperm.length_eq] at h1
    have h2 := best_le' (js := js) (m := (onTimeR js).length) (fun s hg => k4 _ (sel_nodup _ _) (fun a ha => (sel_mem.1 ha).1) ((good_iff hv s).1 hg)) (2 ^ js.length)
    omega
  · rw [kept_one (s0 := s0) (2 ^ js.length) fun s hs => ?_, if_pos hs0]
    rw [Bool.and_eq_true, ← hbit s hs]
    constructor
    · rintro ⟨h1, -⟩
      unfold sameB sameTo at h1
      rw [Bool.and_eq_true, decide_eq_true_eq, List.take_length, List.all_eq_true] at h1
      have hsub : ∀ a ∈ onTimeR js, a ∈ sel s js.length := fun a ha => sel_mem.2 ⟨k1 a ha, h1.2 a ha⟩
      refine ⟨fun a ha => ?_, hsub⟩
      refine Classical.byContradiction fun hno => ?_
      have hlen : (a :: onTimeR js).length ≤ (sel s js.length).length := by
        have hnd : (a :: onTimeR js).Nodup := List.nodup_cons.2 ⟨hno, k2⟩
        have hss : ∀ x ∈ a :: onTimeR js, x ∈ sel s js.length := fun x hx => by
          rcases List.mem_cons.1 hx with rfl | hx
          · exact ha
          · exact hsub x hx
        have hp2 : ((sel s js.length).filter fun x => decide (x ∈ a :: onTimeR js)).Perm (a :: onTimeR js) := by
          refine (List.perm_ext_iff_of_nodup ((sel_nodup _ _).filter _) hnd).2 fun x => ?_
          rw [List.mem_filter, decide_eq_true_eq]
          exact ⟨fun h => h.2, fun h => ⟨hss x h, h⟩⟩
        rw [← hp2.length_eq]
        exact List.length_filter_le _ _
      simp at hlen; omega
    · rintro ⟨h1, h2⟩
      have hp : (sel s js.length).Perm (onTimeR js) := (List.perm_ext_iff_of_nodup (sel_nodup _ _) k2).2 fun a => ⟨h1 a, h2 a⟩
      refine ⟨?_, (good_iff hv s).2 (fz_perm hp.symm k3)⟩
      unfold sameB sameTo
      rw [Bool.and_eq_true, decide_eq_true_eq, List.take_length, List.all_eq_true]
      exact ⟨hp.length_eq, fun a ha => (sel_mem.1 (h2 a ha)).2⟩
end Go.Proofs.YtfjemnjdkniibaaDoor
