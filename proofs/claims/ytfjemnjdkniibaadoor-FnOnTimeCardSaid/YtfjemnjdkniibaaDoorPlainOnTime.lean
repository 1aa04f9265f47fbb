/-
  OnTime without a program: what is kept, step by step; the set of what is kept, sorted.
-/
import Derived.Test.YtfjemnjdkniibaaDoorPlainLong
namespace Go.Proofs.YtfjemnjdkniibaaDoor

def spn (js : List J) (a : Int) : Int := (jAt js a).s
def due (js : List J) (a : Int) : Int := (jAt js a).d
def spns (js : List J) : List Int → Int
  | [] => 0
  | a :: l => spn js a + spns js l
theorem spns_append (js : List J) : ∀ l m, spns js (l ++ m) = spns js l + spns js m
  | [], m => by simp [spns]
  | a :: l, m => by simp [spns, spns_append js l m]; omega
theorem spns_erase (js : List J) : ∀ (l : List Int) (i : Nat) (h : i < l.length), spns js (l.eraseIdx i) = spns js l - spn js l[i]
  | [], i, h => by simp at h
  | a :: l, 0, h => by simp [spns]; omega
  | a :: l, i + 1, h => by
    simp only [List.eraseIdx_cons_succ, spns, List.getElem_cons_succ]
    rw [spns_erase js l i (by simpa using h)]
    omega

theorem getD_lt {l : List Int} {i : Nat} (h : i < l.length) : l.getD i 0 = l[i] := by
  rw [List.getD_eq_getElem?_getD, List.getElem?_eq_getElem h]; rfl

/-- The last of the longest of the first k. -/
def worstTo (js : List J) (l : List Int) : Nat → Nat
  | 0 => 0
  | k + 1 => if spn js (l.getD (worstTo js l k) 0) ≤ spn js (l.getD k 0) then k else worstTo js l k
theorem worstTo_lt (js : List J) (l : List Int) : ∀ k, 0 < k → worstTo js l k < k
  | 0, h => absurd h (Nat.lt_irrefl 0)
  | k + 1, _ => by
    simp only [worstTo]
    split
    · omega
    · rcases Nat.eq_zero_or_pos k with rfl | hk
      · simp [worstTo]
      · have := worstTo_lt js l k hk; omega
theorem worstTo_le (js : List J) (l : List Int) (k : Nat) (n : Nat) (h : k ≤ n) (hn : 0 < n) : worstTo js l k < n := by
  rcases Nat.eq_zero_or_pos k with rfl | hk
  · simpa [worstTo] using hn
  · have := worstTo_lt js l k hk; omega
theorem worstTo_max (js : List J) (l : List Int) : ∀ k j, j < k → spn js (l.getD j 0) ≤ spn js (l.getD (worstTo js l k) 0)
  | 0, j, h => absurd h (Nat.not_lt_zero j)
  | k + 1, j, h => by
    simp only [worstTo]
    split
    · rename_i hq
      by_cases e : j = k
      · subst e; exact Int.le_refl _
      · exact Int.le_trans (worstTo_max js l k j (by omega)) hq
    · rename_i hq
      by_cases e : j = k
      · subst e; omega
      · exact worstTo_max js l k j (by omega)

abbrev OT := List Int × Int
def otPre (js : List J) (st : OT) (a : Int) : OT := (st.1 ++ [a], st.2 + spn js a)
def worst (js : List J) (l : List Int) : Nat := worstTo js l l.length
def otCut (js : List J) (st : OT) : OT := (st.1.eraseIdx (worst js st.1), st.2 - spn js (st.1.getD (worst js st.1) 0))
def otStep (js : List J) (st : OT) (a : Int) : OT := if due js a < (otPre js st a).2 then otCut js (otPre js st a) else otPre js st a
def ot (js : List J) (l : List Int) : OT := l.foldl (otStep js) ([], 0)
theorem ot_snoc (js : List J) (l : List Int) (a : Int) : ot js (l ++ [a]) = otStep js (ot js l) a := by simp [ot]
def keptR (js : List J) : List Int := if jsvB js then (ot js (soTo kDue js js.length)).1 else []
/-- Those of xs that are below n, in ascending order. -/
def ascTo (xs : List Int) : Nat → List Int
  | 0 => []
  | k + 1 => if hasI xs k then ascTo xs k ++ [(k : Int)] else ascTo xs k
def onTimeR (js : List J) : List Int := ascTo (keptR js) js.length

/-- What holds of what is kept, of an order by Due. -/
structure OtOk (js : List J) (l : List Int) (st : OT) : Prop where
  sub : ∀ a ∈ st.1, a ∈ l
  nodup : st.1.Nodup
  sum : st.2 = spns js st.1
  bd : ∀ y, ix js y → (∀ a ∈ l, due js a ≤ due js y) → st.2 ≤ due js y

theorem cut_ok {js : List J} {st : OT} {a : Int} (h : ∀ b ∈ st.1, ix js b) (ha : ix js a) (hsum : st.2 = spns js st.1) :
    (otCut js (otPre js st a)).2 = spns js (otCut js (otPre js st a)).1 ∧ (otCut js (otPre js st a)).2 ≤ st.2 ∧ worst js (st.1 ++ [a]) < st.1.length + 1 ∧ ix js ((st.1 ++ [a]).getD (worst js (st.1 ++ [a])) 0) := by
  have hlt : worst js (st.1 ++ [a]) < (st.1 ++ [a]).length := by
    unfold worst
    exact worstTo_lt js _ _ (by simp)
  have hg : (st.1 ++ [a]).getD (worst js (st.1 ++ [a])) 0 = (st.1 ++ [a])[worst js (st.1 ++ [a])] := getD_lt hlt
  refine ⟨?_, ?_, by simpa using hlt, ?_⟩
  · simp only [otCut, otPre]
    rw [spns_erase js _ _ hlt, hg, spns_append, hsum]
    simp [spns]
  · have := worstTo_max js (st.1 ++ [a]) (st.1 ++ [a]).length st.1.length (by simp)
    have e : (st.1 ++ [a]).getD st.1.length 0 = a := by simp [List.getD]
    rw [e] at this
    simp only [otCut, otPre]
    unfold worst
    omega
  · rw [hg]
    have := List.getElem_mem hlt
    rcases List.mem_append.1 this with hm | hm
    · exact h _ hm
    · rw [List.mem_singleton] at hm; rw [hm]; exact ha

theorem ot_ok {js : List J} (hs : ∀ j ∈ js, jvB j = true) : ∀ l : List Int, (∀ a ∈ l, ix js a) → l.Nodup → l.Pairwise (fun a b => due js a ≤ due js b) → OtOk js l (ot js l) := by
  intro l
  refine snoc_ind (P := fun l => (∀ a ∈ l, ix js a) → l.Nodup → l.Pairwise (fun a b => due js a ≤ due js b) → OtOk js l (ot js l)) ?_ ?_ l
  · intro _ _ _
    refine ⟨by simp [ot], by simp [ot], by simp [ot, spns], fun y hy _ => ?_⟩
    have := (jvB_d (ok_at (ok := fun j => jvB j = true) hs hy)).1
    simpa [ot, due] using by omega
  · intro l a ih h1 h2 h3
    have hl : ∀ x ∈ l, ix js x := fun x hx => h1 x (by simp [hx])
    have ha : ix js a := h1 a (by simp)
    rw [List.nodup_append] at h2
    rw [List.pairwise_append] at h3
    obtain ⟨i1, i2, i3, i4⟩ := ih hl h2.1 h3.1
    have hal : a ∉ l := fun hm => h2.2.2 a hm a (by simp) rfl
    have hla : ∀ b ∈ l, due js b ≤ due js a := fun b hb => h3.2.2 b hb a (by simp)
    rw [ot_snoc]
    have hnd : ((ot js l).1 ++ [a]).Nodup := by
      rw [List.nodup_append]
      exact ⟨i2, by simp, fun b hb c hc => by
        rw [List.mem_singleton] at hc; subst hc
        exact fun e => hal (e ▸ i1 b hb)⟩
    unfold otStep
    split
    · obtain ⟨c1, c2, c3, -⟩ := cut_ok (fun b hb => hl b (i1 b hb)) ha i3
      refine ⟨fun b hb => ?_, ?_, c1, fun y hy hyl => ?_⟩
      · have hb' := List.mem_of_mem_eraseIdx hb
        rcases List.mem_append.1 hb' with h | h
        · exact List.mem_append_left _ (i1 b h)
        · exact List.mem_append_right _ h
      · exact hnd.eraseIdx _
      · have := i4 a ha hla
        have := hyl a (by simp)
        omega
    · rename_i hq
      refine ⟨fun b hb => ?_, hnd, ?_, fun y hy hyl => ?_⟩
      · rcases List.mem_append.1 hb with h | h
        · exact List.mem_append_left _ (i1 b h)
        · exact List.mem_append_right _ h
      · simp only [otPre]
        rw [spns_append, i3]
        simp [spns]
      · have := hyl a (by simp)
        omega

theorem asc_mem {xs : List Int} : ∀ {n : Nat} {a : Int}, a ∈ ascTo xs n ↔ 0 ≤ a ∧ a < (n : Int) ∧ a ∈ xs
  | 0, a => by simp [ascTo]; omega
  | n + 1, a => by
    simp only [ascTo]
    split
    · rename_i h
      rw [List.mem_append, asc_mem (n := n), List.mem_singleton]
      rw [hasI_iff] at h
      constructor
      · rintro (⟨h1, h2, h3⟩ | rfl)
        · exact ⟨h1, by omega, h3⟩
        · exact ⟨by omega, by omega, h⟩
      · rintro ⟨h1, h2, h3⟩
        by_cases e : a = n
        · exact .inr e
        · exact .inl ⟨h1, by omega, h3⟩
    · rename_i h
      rw [asc_mem (n := n)]
      rw [hasI_iff] at h
      constructor
      · rintro ⟨h1, h2, h3⟩; exact ⟨h1, by omega, h3⟩
      · rintro ⟨h1, h2, h3⟩
        have : a ≠ n := fun e => h (e ▸ h3)
        exact ⟨h1, by omega, h3⟩
theorem asc_sorted (xs : List Int) : ∀ n, (ascTo xs n).Pairwise (· < ·)
  | 0 => by simp [ascTo]
  | n + 1 => by
    simp only [ascTo]
    split
    · rw [List.pairwise_append]
      refine ⟨asc_sorted xs n, by simp, fun a ha b hb => ?_⟩
      rw [List.mem_singleton] at hb; subst hb
      exact (asc_mem.1 ha).2.1
    · exact asc_sorted xs n
theorem asc_len (xs : List Int) : ∀ n, (ascTo xs n).length ≤ n
  | 0 => by simp [ascTo]
  | n + 1 => by
    simp only [ascTo]
    have := asc_len xs n
    split
    · simp; omega
    · omega
/-- What the sorting of distinct indices makes. -/
theorem asc_unique {xs ys : List Int} {n : Nat} (hx : ∀ a ∈ xs, 0 ≤ a ∧ a < (n : Int)) (hnd : xs.Nodup) (hp : ys.Perm xs) (hs : ys.Pairwise (· ≤ ·)) : ys = ascTo xs n := by
  have hn : ys.Nodup := hp.nodup_iff.2 hnd
  have ha : (ascTo xs n).Nodup := (asc_sorted xs n).imp fun h => by omega
  refine List.Perm.eq_of_pairwise (le := (· ≤ ·)) (fun a b _ _ h1 h2 => Int.le_antisymm h1 h2) hs ((asc_sorted xs n).imp fun h => Int.le_of_lt h) ((List.perm_ext_iff_of_nodup hn ha).2 fun a => ?_)
  rw [hp.mem_iff, asc_mem]
  exact ⟨fun h => ⟨(hx a h).1, (hx a h).2, h⟩, fun h => h.2.2⟩

theorem kept_eq (js : List J) : keptR js = (ot js (orderR kDue js)).1 := by
  unfold keptR orderR
  split <;> simp [ot]
/-- The order by Due, for the walk. -/
theorem due_facts {js : List J} (hs : ∀ j ∈ js, jvB j = true) (k : Nat) : (∀ a ∈ (soTo kDue js js.length).take k, ix js a) ∧ ((soTo kDue js js.length).take k).Nodup ∧ OtOk js ((soTo kDue js js.length).take k) (ot js ((soTo kDue js js.length).take k)) ∧
    ∀ a, (soTo kDue js js.length)[k]? = some a → ix js a ∧ (∀ b ∈ (soTo kDue js js.length).take k, due js b ≤ due js a) ∧ a ∉ (soTo kDue js js.length).take k := by
  obtain ⟨h1, h2, _⟩ := so_sorted cmpDue hs js.length (Nat.le_refl _)
  have hnd := RI_nodup cmpDue hs h1 h2
  have hd : (soTo kDue js js.length).Pairwise (fun a b => due js a ≤ due js b) := h2.imp fun h => by
    unfold RI kDue at h; unfold due; omega
  have hm : ∀ a ∈ (soTo kDue js js.length).take k, ix js a := fun a ha => h1 a (List.mem_of_mem_take ha)
  refine ⟨hm, hnd.sublist (List.take_sublist _ _), ot_ok hs _ hm (hnd.sublist (List.take_sublist _ _)) (hd.sublist (List.take_sublist _ _)), fun a ha => ?_⟩
  obtain ⟨hk, e⟩ := List.getElem?_eq_some_iff.1 ha
  have hsp := List.take_append_drop k (soTo kDue js js.length)
  rw [List.drop_eq_getElem_cons hk, e] at hsp
  refine ⟨h1 a (by rw [← e]; exact List.getElem_mem hk), ?_, ?_⟩
  · rw [← hsp, List.pairwise_append] at hd
    exact fun b hb => hd.2.2 b hb a (by simp)
  · rw [← hsp, List.nodup_append] at hnd
    exact fun hm => hnd.2.2 a hm a (by simp) rfl
theorem spns_bd {js : List J} (hs : ∀ j ∈ js, jvB j = true) : ∀ l : List Int, (∀ a ∈ l, ix js a) → 0 ≤ spns js l ∧ spns js l ≤ 99 * l.length
  | [], _ => by simp [spns]
  | a :: l, h => by
    have := spns_bd hs l fun x hx => h x (List.mem_cons_of_mem _ hx)
    have ha := jvB_s (ok_at (ok := fun j => jvB j = true) hs (h a (by simp)))
    simp only [spns, List.length_cons, spn]
    omega
end Go.Proofs.YtfjemnjdkniibaaDoor
