/-
  TwoLong without a program: the order by Span, found in two ways, and the sharing that goes through it.
-/
import Derived.Test.YtfjemnjdkniibaaDoorPlainSort
namespace Go.Proofs.YtfjemnjdkniibaaDoor

/-- The jobs below k with Span s. -/
def bp (js : List J) (s : Int) : Nat → List Int
  | 0 => []
  | k + 1 => if (jAt js k).s = s then bp js s k ++ [(k : Int)] else bp js s k
/-- The jobs with Spans greater than 99 - m, by Span. -/
def bk (js : List J) : Nat → List Int
  | 0 => []
  | m + 1 => bk js m ++ bp js (99 - m) js.length

theorem bp_mem {js : List J} {s : Int} : ∀ {k : Nat} {a : Int}, a ∈ bp js s k ↔ 0 ≤ a ∧ a < (k : Int) ∧ (jAt js a).s = s
  | 0, a => by simp [bp]; omega
  | k + 1, a => by
    simp only [bp]
    split
    · rename_i h
      rw [List.mem_append, bp_mem (k := k), List.mem_singleton]
      constructor
      · rintro (⟨h1, h2, h3⟩ | h1)
        · exact ⟨h1, by omega, h3⟩
        · subst h1; exact ⟨by omega, by omega, h⟩
      · rintro ⟨h1, h2, h3⟩
        by_cases e : a = k
        · exact .inr e
        · exact .inl ⟨h1, by omega, h3⟩
    · rename_i h
      rw [bp_mem (k := k)]
      constructor
      · rintro ⟨h1, h2, h3⟩; exact ⟨h1, by omega, h3⟩
      · rintro ⟨h1, h2, h3⟩
        refine ⟨h1, ?_, h3⟩
        have : a ≠ k := fun e => by subst e; exact h h3
        omega
theorem bp_sorted {js : List J} {s : Int} : ∀ k, (bp js s k).Pairwise (RI kSpan js)
  | 0 => by simp [bp]
  | k + 1 => by
    simp only [bp]
    split
    · rename_i h
      rw [List.pairwise_append]
      refine ⟨bp_sorted k, by simp, fun a ha b hb => ?_⟩
      rw [List.mem_singleton] at hb; subst hb
      obtain ⟨h1, h2, h3⟩ := bp_mem.1 ha
      exact .inr ⟨by unfold kSpan; omega, h2⟩
    · exact bp_sorted k
theorem bk_mem {js : List J} (hv : ∀ a, ix js a → (jAt js a).s ≤ 99) : ∀ {m : Nat} {a : Int}, a ∈ bk js m ↔ ix js a ∧ 99 - (m : Int) < (jAt js a).s
  | 0, a => by
    simp only [bk, List.not_mem_nil, false_iff]
    rintro ⟨h1, h2⟩
    have := hv a h1
    omega
  | m + 1, a => by
    simp only [bk]
    rw [List.mem_append, bk_mem hv (m := m), bp_mem]
    unfold ix
    constructor
    · rintro (⟨h1, h2⟩ | ⟨h1, h2, h3⟩)
      · exact ⟨h1, by omega⟩
      · exact ⟨⟨h1, h2⟩, by omega⟩
    · rintro ⟨h1, h2⟩
      by_cases e : (jAt js a).s = 99 - m
      · exact .inr ⟨h1.1, h1.2, e⟩
      · exact .inl ⟨h1, by omega⟩
theorem bk_sorted {js : List J} (hv : ∀ a, ix js a → (jAt js a).s ≤ 99) : ∀ m, (bk js m).Pairwise (RI kSpan js)
  | 0 => by simp [bk]
  | m + 1 => by
    simp only [bk]
    rw [List.pairwise_append]
    refine ⟨bk_sorted hv m, bp_sorted _, fun a ha b hb => ?_⟩
    obtain ⟨-, h2⟩ := (bk_mem hv).1 ha
    obtain ⟨-, -, h3⟩ := bp_mem.1 hb
    exact .inl (by unfold kSpan; omega)
theorem bk_all {js : List J} (hs : ∀ j ∈ js, jvB j = true) : bk js 99 = soTo kSpan js js.length := by
  have hs1 : ∀ a, ix js a → 1 ≤ (jAt js a).s ∧ (jAt js a).s ≤ 99 := fun a ha => jvB_s (ok_at (ok := fun j => jvB j = true) hs ha)
  refine so_unique cmpSpan hs (bk_sorted (fun a ha => (hs1 a ha).2) 99) fun a => ?_
  rw [bk_mem fun a ha => (hs1 a ha).2]
  constructor
  · exact fun h => h.1
  · exact fun h => ⟨h, by have := (hs1 a h).1; omega⟩

/-- One job more, for the line that is done earlier. -/
def shStep (js : List J) (st : Int × Int × Nat) (a : Int) : Int × Int × Nat :=
  if st.1 ≤ st.2.1 then (st.1 + (jAt js a).s, st.2.1, st.2.2) else (st.1, st.2.1 + (jAt js a).s, st.2.2 + 2 ^ a.toNat)
def sh (js : List J) (l : List Int) : Int × Int × Nat := l.foldl (shStep js) (0, 0, 0)
def longR (js : List J) : Int := if jsvB js then (sh js (soTo kSpan js js.length)).2.2 else -1

theorem sh_snoc (js : List J) (l : List Int) (a : Int) : sh js (l ++ [a]) = shStep js (sh js l) a := by simp [sh]

theorem bit_add : ∀ s : Nat, s < 64 → ∀ a : Nat, a < 6 → s.testBit a = false → (s ||| 2 ^ a = s + 2 ^ a ∧ s + 2 ^ a < 64 ∧ ∀ b : Nat, b < 6 → (s + 2 ^ a).testBit b = (s.testBit b || decide (b = a))) := by
  decide +kernel

theorem snoc_ind {α : Type} {P : List α → Prop} (h0 : P []) (h1 : ∀ l a, P l → P (l ++ [a])) (l : List α) : P l := by
  have : ∀ l : List α, P l.reverse := fun l => by
    induction l with
    | nil => exact h0
    | cons a l ih => rw [List.reverse_cons]; exact h1 _ _ ih
  have h := this l.reverse
  rwa [List.reverse_reverse] at h

/-- What the sharing holds: sums in their bounds, and bits of the jobs that were given alone. -/
theorem sh_ok {js : List J} (hs : ∀ j ∈ js, jvB j = true) (hn : js.length ≤ 6) : ∀ l : List Int, (∀ a ∈ l, ix js a) → l.Nodup →
    0 ≤ (sh js l).1 ∧ 0 ≤ (sh js l).2.1 ∧ (sh js l).1 + (sh js l).2.1 ≤ 99 * l.length ∧ (sh js l).2.2 < 64 ∧ ∀ b : Nat, b < 6 → (b : Int) ∉ l → (sh js l).2.2.testBit b = false := by
  intro l
  refine snoc_ind (P := fun l => (∀ a ∈ l, ix js a) → l.Nodup → 0 ≤ (sh js l).1 ∧ 0 ≤ (sh js l).2.1 ∧ (sh js l).1 + (sh js l).2.1 ≤ 99 * l.length ∧ (sh js l).2.2 < 64 ∧ ∀ b : Nat, b < 6 → (b : Int) ∉ l → (sh js l).2.2.testBit b = false) ?_ ?_ l
  · intro _ _; simp [sh]
  · intro l a ih h1 h2
    have hl : ∀ x ∈ l, ix js x := fun x hx => h1 x (by simp [hx])
    have ha : ix js a := h1 a (by simp)
    rw [List.nodup_append] at h2
    obtain ⟨i1, i2, i3, i4, i5⟩ := ih hl h2.1
    have hal : a ∉ l := fun hm => h2.2.2 a hm a (by simp) rfl
    obtain ⟨an, rfl⟩ := Int.eq_ofNat_of_zero_le ha.1
    have han : an < 6 := by have := ha.2; omega
    obtain ⟨s1, s2⟩ := jvB_s (ok_at (ok := fun j => jvB j = true) hs ha)
    obtain ⟨b1, b2, b3⟩ := bit_add _ i4 an han (i5 an han hal)
    rw [sh_snoc]
    unfold shStep
    split
    · refine ⟨by omega, by omega, by simp; omega, i4, fun b hb hbl => i5 b hb fun hm => hbl (by simp [hm])⟩
    · refine ⟨by omega, by simp; omega, by simp; omega, by simpa using b2, fun b hb hbl => ?_⟩
      have h3 : b ≠ an := fun e => hbl (by simp [e])
      have h4 : (b : Int) ∉ l := fun hm => hbl (by simp [hm])
      show ((sh js l).2.2 + 2 ^ an).testBit b = false
      rw [b3 b hb, i5 b hb h4]
      simp [h3]

/-- The order so far, in the middle of a Span. -/
theorem bq_ok {js : List J} (hs : ∀ j ∈ js, jvB j = true) (hn : js.length ≤ 6) (m k : Nat) (hk : k ≤ js.length) :
    0 ≤ (sh js (bk js m ++ bp js (99 - m) k)).1 ∧ 0 ≤ (sh js (bk js m ++ bp js (99 - m) k)).2.1 ∧ (sh js (bk js m ++ bp js (99 - m) k)).1 + (sh js (bk js m ++ bp js (99 - m) k)).2.1 ≤ 600 ∧
      (sh js (bk js m ++ bp js (99 - m) k)).2.2 < 64 ∧ (k < js.length → (sh js (bk js m ++ bp js (99 - m) k)).2.2.testBit k = false ∨ (jAt js k).s ≠ 99 - m) := by
  have hs1 : ∀ a, ix js a → 1 ≤ (jAt js a).s ∧ (jAt js a).s ≤ 99 := fun a ha => jvB_s (ok_at (ok := fun j => jvB j = true) hs ha)
  have hb := fun a ha => (hs1 a ha).2
  have hmem : ∀ a, a ∈ bk js m ++ bp js (99 - m) k → ix js a := fun a ha => by
    rcases List.mem_append.1 ha with h | h
    · exact ((bk_mem hb).1 h).1
    · obtain ⟨h1, h2, _⟩ := bp_mem.1 h
      exact ⟨h1, by omega⟩
  have hso : (bk js m ++ bp js (99 - m) k).Pairwise (RI kSpan js) := by
    rw [List.pairwise_append]
    refine ⟨bk_sorted hb m, bp_sorted _, fun a ha b hb' => ?_⟩
    obtain ⟨-, h2⟩ := (bk_mem hb).1 ha
    obtain ⟨-, -, h3⟩ := bp_mem.1 hb'
    exact .inl (by unfold kSpan; omega)
  have hnd := RI_nodup cmpSpan hs hmem hso
  have hlen := few (n := js.length) hnd fun a ha => hmem a ha
  obtain ⟨h1, h2, h3, h4, h5⟩ := sh_ok hs hn _ hmem hnd
  refine ⟨h1, h2, by omega, h4, fun hlt => ?_⟩
  by_cases e : (jAt js k).s = 99 - m
  · refine .inl (h5 k (by omega) fun hm => ?_)
    rcases List.mem_append.1 hm with h | h
    · have := ((bk_mem hb).1 h).2; omega
    · have := (bp_mem.1 h).2.1; omega
  · exact .inr e
theorem bq_hit {js : List J} {m k : Nat} (h : (jAt js k).s = 99 - m) {f s : Int} {z : Nat} (e : sh js (bk js m ++ bp js (99 - m) k) = (f, s, z)) :
    sh js (bk js m ++ bp js (99 - m) (k + 1)) = if f ≤ s then (f + (jAt js k).s, s, z) else (f, s + (jAt js k).s, z + 2 ^ k) := by
  simp only [bp, if_pos h]
  rw [← List.append_assoc, sh_snoc, e]
  simp [shStep]
theorem bq_miss {js : List J} {m k : Nat} (h : (jAt js k).s ≠ 99 - m) : bk js m ++ bp js (99 - m) (k + 1) = bk js m ++ bp js (99 - m) k := by
  simp only [bp, if_neg h]
end Go.Proofs.YtfjemnjdkniibaaDoor
