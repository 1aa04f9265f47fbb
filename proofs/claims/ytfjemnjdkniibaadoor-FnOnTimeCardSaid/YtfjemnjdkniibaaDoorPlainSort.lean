/-
  Orders of jobs by what counts, those with the same in their order: the insertion sort and the choice of the least one come to the same list. Plain lists.
-/
import Derived.Test.YtfjemnjdkniibaaDoorPlainBB
namespace Go.Proofs.YtfjemnjdkniibaaDoor
open Go.RowKit

/-- K compares jobs that are ok: below nought where the first is less. -/
structure Cmp (K : J → J → Int) (ok : J → Prop) : Prop where
  anti : ∀ a b, ok a → ok b → K b a = -K a b
  trans : ∀ a b c, ok a → ok b → ok c → K a b ≤ 0 → K b c ≤ 0 → K a c ≤ 0
  lt_le : ∀ a b c, ok a → ok b → ok c → K a b < 0 → K b c ≤ 0 → K a c < 0
  le_lt : ∀ a b c, ok a → ok b → ok c → K a b ≤ 0 → K b c < 0 → K a c < 0

def jAt (js : List J) (a : Int) : J := js.getD a.toNat ⟨0, 0, 0⟩
theorem jAt_lt {js : List J} {x : Nat} (h : x < js.length) : jAt js x = js[x] := by simp [jAt, h]
/-- a comes before b. -/
def RI (K : J → J → Int) (js : List J) (a b : Int) : Prop := K (jAt js a) (jAt js b) < 0 ∨ (K (jAt js a) (jAt js b) = 0 ∧ a < b)
/-- An index. -/
def ix (js : List J) (a : Int) : Prop := 0 ≤ a ∧ a < js.length

section
variable {K : J → J → Int} {ok : J → Prop} {js : List J} (C : Cmp K ok) (hok : ∀ j ∈ js, ok j)
include C hok

omit C in
theorem ok_at {a : Int} (h : ix js a) : ok (jAt js a) := by
  obtain ⟨h0, h1⟩ := h
  obtain ⟨x, rfl⟩ := Int.eq_ofNat_of_zero_le h0
  rw [jAt_lt (by omega)]
  exact hok _ (List.getElem_mem _)

theorem RI_trans {a b c : Int} (ha : ix js a) (hb : ix js b) (hc : ix js c) (h1 : RI K js a b) (h2 : RI K js b c) : RI K js a c := by
  have oa := ok_at hok ha; have ob := ok_at hok hb; have oc := ok_at hok hc
  rcases h1 with h1 | ⟨h1, h1'⟩ <;> rcases h2 with h2 | ⟨h2, h2'⟩
  · exact .inl (C.lt_le _ _ _ oa ob oc h1 (by omega))
  · exact .inl (C.lt_le _ _ _ oa ob oc h1 (by omega))
  · exact .inl (C.le_lt _ _ _ oa ob oc (by omega) h2)
  · have h3 := C.trans _ _ _ oa ob oc (by omega : K (jAt js a) (jAt js b) ≤ 0) (by omega : K (jAt js b) (jAt js c) ≤ 0)
    have h4 := C.anti _ _ oa ob
    have h5 := C.anti _ _ ob oc
    have h6 := C.trans _ _ _ oc ob oa (by omega : K (jAt js c) (jAt js b) ≤ 0) (by omega : K (jAt js b) (jAt js a) ≤ 0)
    have h7 := C.anti _ _ oa oc
    exact .inr ⟨by omega, by omega⟩
theorem RI_total {a b : Int} (ha : ix js a) (hb : ix js b) (hne : a ≠ b) : RI K js a b ∨ RI K js b a := by
  have oa := ok_at hok ha; have ob := ok_at hok hb
  have h := C.anti _ _ oa ob
  unfold RI
  omega
theorem RI_irrefl {a : Int} (ha : ix js a) : ¬ RI K js a a := by
  have oa := ok_at hok ha
  have h := C.anti _ _ oa oa
  unfold RI
  omega
theorem RI_asymm {a b : Int} (ha : ix js a) (hb : ix js b) (h1 : RI K js a b) : ¬ RI K js b a := fun h2 =>
  RI_irrefl C hok ha (RI_trans C hok ha hb ha h1 h2)

theorem RI_nodup {l : List Int} (hl : ∀ a ∈ l, ix js a) (h : l.Pairwise (RI K js)) : l.Nodup := by
  rw [List.nodup_iff_pairwise_ne]
  refine List.Pairwise.imp_of_mem ?_ h
  rintro a b ha hb hab rfl
  exact RI_irrefl C hok (hl _ ha) hab

/-- Two sorted lists of the same indices are one. -/
theorem RI_unique {l l' : List Int} (hl : ∀ a ∈ l, ix js a) (hl' : ∀ a ∈ l', ix js a) (h : l.Pairwise (RI K js)) (h' : l'.Pairwise (RI K js)) (hm : ∀ a, a ∈ l ↔ a ∈ l') : l = l' :=
  List.Perm.eq_of_pairwise (fun a b ha hb h1 h2 => absurd h2 (RI_asymm C hok (hl a ha) (hl' b hb) h1)) h h' ((List.perm_ext_iff_of_nodup (RI_nodup C hok hl h) (RI_nodup C hok hl' h')).2 hm)

/-- The step of an insertion: x, of a greater index than all in A ++ B, stands behind A and ahead of B. -/
theorem insert_sorted {A B : List Int} {x : Int} (hA : ∀ a ∈ A ++ B, ix js a ∧ a < x) (hx : ix js x) (h : (A ++ B).Pairwise (RI K js))
    (hB : ∀ b ∈ B, K (jAt js x) (jAt js b) < 0) (hl : ∀ a, A.getLast? = some a → ¬ K (jAt js x) (jAt js a) < 0) : (A ++ x :: B).Pairwise (RI K js) := by
  rw [List.pairwise_append] at h ⊢
  obtain ⟨h1, h2, h3⟩ := h
  have hAx : ∀ a ∈ A, RI K js a x := by
    intro a ha
    obtain ⟨l, hlast⟩ : ∃ l, A.getLast? = some l := by
      cases hg : A.getLast? with
      | none => rw [List.getLast?_eq_none_iff] at hg; subst hg; cases ha
      | some l => exact ⟨l, rfl⟩
    have hlA : l ∈ A := List.mem_of_getLast? hlast
    obtain ⟨ixl, ltl⟩ := hA l (List.mem_append_left _ hlA)
    obtain ⟨ixa, lta⟩ := hA a (List.mem_append_left _ ha)
    have hlx : RI K js l x := by
      have := C.anti _ _ (ok_at hok ixl) (ok_at hok hx)
      have := hl l hlast
      unfold RI
      omega
    by_cases e : a = l
    · subst e; exact hlx
    · have hal : RI K js a l := by
        obtain ⟨A', rfl⟩ := List.getLast?_eq_some_iff.1 hlast
        rw [List.pairwise_append] at h1
        rcases List.mem_append.1 ha with h | h
        · exact h1.2.2 a h l (by simp)
        · exact absurd (by simpa using h) e
      exact RI_trans C hok ixa ixl hx hal hlx
  refine ⟨h1, List.pairwise_cons.2 ⟨fun b hb => .inl (hB b hb), h2⟩, ?_⟩
  intro a ha b hb
  rcases List.mem_cons.1 hb with rfl | hb
  · exact hAx a ha
  · exact h3 a ha b hb

end

/-- The least of the first k that are not in out. -/
def pickTo (K : J → J → Int) (js : List J) (out : List Int) : Nat → Int
  | 0 => -1
  | k + 1 => if !hasI out k && (decide (pickTo K js out k < 0) || decide (K (jAt js k) (jAt js (pickTo K js out k)) < 0)) then (k : Int) else pickTo K js out k
/-- The first m, each time the least of those that are left. -/
def soTo (K : J → J → Int) (js : List J) : Nat → List Int
  | 0 => []
  | m + 1 => soTo K js m ++ [pickTo K js (soTo K js m) js.length]
def orderR (K : J → J → Int) (js : List J) : List Int := if jsvB js then soTo K js js.length else []

theorem soTo_len (K : J → J → Int) (js : List J) : ∀ m, (soTo K js m).length = m
  | 0 => rfl
  | m + 1 => by simp [soTo, soTo_len K js m]
theorem orderR_len (K : J → J → Int) (js : List J) : (orderR K js).length ≤ js.length := by
  unfold orderR
  split
  · rw [soTo_len]; omega
  · simp

/-- A list without twins of indices below n has at most n. -/
theorem few {n : Nat} : ∀ {l : List Int}, l.Nodup → (∀ a ∈ l, 0 ≤ a ∧ a < (n : Int)) → l.length ≤ n := by
  induction n with
  | zero =>
    intro l _ h
    cases l with
    | nil => simp
    | cons a l => have := h a (by simp); omega
  | succ n ih =>
    intro l hn h
    have h1 : (l.erase (n : Int)).length ≤ n := ih (hn.erase _) fun a ha => by
      have h2 := h a (List.mem_of_mem_erase ha)
      have h3 : a ≠ (n : Int) := fun e => by subst e; exact (List.Nodup.not_mem_erase hn) ha
      omega
    by_cases hm : (n : Int) ∈ l
    · rw [List.length_erase_of_mem hm] at h1; omega
    · rw [List.erase_of_not_mem hm] at h1; omega

section
variable {K : J → J → Int} {ok : J → Prop} {js : List J} (C : Cmp K ok) (hok : ∀ j ∈ js, ok j)
include C hok

/-- What was picked is the least of those that are left. -/
theorem pick_least {out : List Int} : ∀ k, k ≤ js.length → (pickTo K js out k = -1 ∧ ∀ y : Nat, y < k → hasI out y = true) ∨
    ∃ x : Nat, pickTo K js out k = x ∧ x < k ∧ hasI out x = false ∧ ∀ y : Nat, y < k → hasI out y = false → y ≠ x → RI K js x y
  | 0, _ => .inl ⟨rfl, fun y h => absurd h (Nat.not_lt_zero _)⟩
  | k + 1, hk => by
    have ih := pick_least (out := out) k (by omega)
    simp only [pickTo]
    cases hh : hasI out k with
    | true =>
      simp only [Bool.not_true, Bool.false_and, Bool.false_eq_true, if_false]
      rcases ih with ⟨h1, h2⟩ | ⟨x, h1, h2, h3, h4⟩
      · refine .inl ⟨h1, fun y hy => ?_⟩
        by_cases e : y = k
        · subst e; exact hh
        · exact h2 y (by omega)
      · refine .inr ⟨x, h1, by omega, h3, fun y hy hyo hyx => ?_⟩
        by_cases e : y = k
        · subst e; rw [hh] at hyo; cases hyo
        · exact h4 y (by omega) hyo hyx
    | false =>
      have ixk : ix js (k : Int) := ⟨by omega, by omega⟩
      rcases ih with ⟨h1, h2⟩ | ⟨x, h1, h2, h3, h4⟩
      · rw [h1]
        refine .inr ⟨k, by simp, by omega, hh, fun y hy hyo hyx => ?_⟩
        rw [h2 y (by omega)] at hyo; cases hyo
      · have ixx : ix js (x : Int) := ⟨by omega, by omega⟩
        rw [h1]
        have hx0 : decide ((x : Int) < 0) = false := by rw [decide_eq_false_iff_not]; omega
        rw [hx0]
        by_cases hq : K (jAt js k) (jAt js x) < 0
        · refine .inr ⟨k, by simp [hq], by omega, hh, fun y hy hyo hyx => ?_⟩
          have hkx : RI K js (k : Int) (x : Int) := .inl hq
          by_cases e : y = x
          · subst e; exact hkx
          · have hxy := h4 y (by omega) hyo e
            exact RI_trans C hok ixk ixx ⟨by omega, by omega⟩ hkx hxy
        · refine .inr ⟨x, by simp [hq], by omega, h3, fun y hy hyo hyx => ?_⟩
          by_cases e : y = k
          · subst e
            have := C.anti _ _ (ok_at hok ixk) (ok_at hok ixx)
            unfold RI
            omega
          · exact h4 y (by omega) hyo hyx

/-- The choice of the least one, again and again, sorts. -/
theorem so_sorted : ∀ m, m ≤ js.length → (∀ a ∈ soTo K js m, ix js a) ∧ (soTo K js m).Pairwise (RI K js) ∧ (∀ a ∈ soTo K js m, ∀ y, ix js y → y ∉ soTo K js m → RI K js a y)
  | 0, _ => ⟨by simp [soTo], by simp [soTo], by simp [soTo]⟩
  | m + 1, hm => by
    obtain ⟨h1, h2, h3⟩ := so_sorted m (by omega)
    rcases pick_least C hok (out := soTo K js m) js.length (Nat.le_refl _) with ⟨_, p2⟩ | ⟨x, p1, p2, p3, p4⟩
    · have := all_in (out := soTo K js m) js.length fun i hi => hasI_iff.1 (p2 i hi)
      rw [soTo_len] at this
      omega
    · have ixx : ix js (x : Int) := ⟨by omega, by omega⟩
      have hxn : (x : Int) ∉ soTo K js m := hasI_false.1 p3
      simp only [soTo, p1]
      refine ⟨?_, ?_, ?_⟩
      · intro a ha
        rcases List.mem_append.1 ha with h | h
        · exact h1 a h
        · rw [List.mem_singleton] at h; subst h; exact ixx
      · rw [List.pairwise_append]
        refine ⟨h2, by simp, fun a ha b hb => ?_⟩
        rw [List.mem_singleton] at hb; subst hb
        exact h3 a ha x ixx hxn
      · intro a ha y hy hyn
        rw [List.mem_append, not_or] at hyn
        obtain ⟨y1, y2⟩ := hyn
        rcases List.mem_append.1 ha with h | h
        · exact h3 a h y hy y1
        · rw [List.mem_singleton] at h; subst h
          obtain ⟨yn, rfl⟩ := Int.eq_ofNat_of_zero_le hy.1
          exact p4 yn (by have := hy.2; omega) (hasI_false.2 y1) (fun e => y2 (by rw [e]; simp))

/-- All indices are there. -/
theorem so_all {y : Int} (hy : ix js y) : y ∈ soTo K js js.length := by
  obtain ⟨h1, h2, _⟩ := so_sorted C hok js.length (Nat.le_refl _)
  refine Classical.byContradiction fun hn => ?_
  have hnd : (y :: soTo K js js.length).Nodup := List.nodup_cons.2 ⟨hn, RI_nodup C hok h1 h2⟩
  have := few (n := js.length) hnd (by
    intro a ha
    rcases List.mem_cons.1 ha with rfl | ha
    · exact hy
    · exact h1 a ha)
  simp [soTo_len] at this
  omega

/-- A sorted list of all indices is the one that the choice makes. -/
theorem so_unique {l : List Int} (h : l.Pairwise (RI K js)) (hm : ∀ a, a ∈ l ↔ ix js a) : l = soTo K js js.length := by
  obtain ⟨h1, h2, _⟩ := so_sorted C hok js.length (Nat.le_refl _)
  exact RI_unique C hok (fun a ha => (hm a).1 ha) h1 h h2 fun a => ⟨fun ha => so_all C hok ((hm a).1 ha), fun ha => (hm a).2 (h1 a ha)⟩
end

/-! ### The three comparisons -/
def kDue (a b : J) : Int := a.d - b.d
def kWeight (a b : J) : Int := a.s * b.g - b.s * a.g
def kSpan (a b : J) : Int := b.s - a.s
theorem cmpDue : Cmp kDue fun j => jvB j = true := ⟨fun _ _ _ _ => by unfold kDue; omega, fun _ _ _ _ _ _ => by unfold kDue; omega, fun _ _ _ _ _ _ => by unfold kDue; omega, fun _ _ _ _ _ _ => by unfold kDue; omega⟩
theorem cmpSpan : Cmp kSpan fun j => jvB j = true := ⟨fun _ _ _ _ => by unfold kSpan; omega, fun _ _ _ _ _ _ => by unfold kSpan; omega, fun _ _ _ _ _ _ => by unfold kSpan; omega, fun _ _ _ _ _ _ => by unfold kSpan; omega⟩

theorem cross {sa ga sb gb sc gc : Int} (hgb : 0 < gb) (hgc : 0 < gc) (hga : 0 < ga) (h1 : sa * gb ≤ sb * ga) (h2 : sb * gc ≤ sc * gb) : sa * gc ≤ sc * ga ∧ (sa * gb < sb * ga ∨ sb * gc < sc * gb → sa * gc < sc * ga) := by
  have e1 : sa * gb * gc = sa * gc * gb := by rw [Int.mul_assoc, Int.mul_comm gb gc, ← Int.mul_assoc]
  have e2 : sb * ga * gc = sb * gc * ga := by rw [Int.mul_assoc, Int.mul_comm ga gc, ← Int.mul_assoc]
  have e3 : sc * gb * ga = sc * ga * gb := by rw [Int.mul_assoc, Int.mul_comm gb ga, ← Int.mul_assoc]
  have m1 : sa * gb * gc ≤ sb * ga * gc := Int.mul_le_mul_of_nonneg_right h1 (by omega)
  have m2 : sb * gc * ga ≤ sc * gb * ga := Int.mul_le_mul_of_nonneg_right h2 (by omega)
  have m3 : sa * gc * gb ≤ sc * ga * gb := by omega
  refine ⟨Int.le_of_mul_le_mul_right m3 hgb, fun h => ?_⟩
  have m4 : sa * gc * gb < sc * ga * gb := by
    rcases h with h | h
    · have : sa * gb * gc < sb * ga * gc := Int.mul_lt_mul_of_pos_right h hgc
      omega
    · have : sb * gc * ga < sc * gb * ga := Int.mul_lt_mul_of_pos_right h hga
      omega
  exact Int.lt_of_mul_lt_mul_right m4 (by omega)

theorem cmpWeight : Cmp kWeight fun j => jvB j = true := by
  refine ⟨fun a b _ _ => by unfold kWeight; omega, fun a b c ha hb hc h1 h2 => ?_, fun a b c ha hb hc h1 h2 => ?_, fun a b c ha hb hc h1 h2 => ?_⟩ <;> unfold kWeight at * <;>
    (have pa := (jvB_g ha).1; have pb := (jvB_g hb).1; have pc := (jvB_g hc).1
     have := cross (sa := a.s) (ga := a.g) (sb := b.s) (gb := b.g) (sc := c.s) (gc := c.g) (by omega) (by omega) (by omega) (by omega) (by omega))
  · omega
  · have := this.2 (.inl (by omega)); omega
  · have := this.2 (.inr (by omega)); omega
end Go.Proofs.YtfjemnjdkniibaaDoor
