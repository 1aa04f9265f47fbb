/-
  Journals, in plain lists of bytes: their texts, and what is read of a text. No program in sight.
-/
import Derived.Test.YtbafifilklfafaaDoorPlainRD
namespace Go.Proofs.YtbafifilklfafaaDoor
open Go.RowKit

def nlB : ByteArray := ⟨#[10]⟩
/-- A deed's text. -/
def dtJ (d : J) : ByteArray := dtB d.s d.d d.g
def goodJ (d : J) : Bool := (dtJ d).size != 0
/-- The text of the first deeds. -/
def textTo (l : List J) : Nat → ByteArray
  | 0 => ⟨#[]⟩
  | k + 1 => textTo l k ++ dtJ (l.getD k ⟨0, 0, 0⟩) ++ nlB
def jtR (l : List J) : ByteArray := if decide (l.length ≤ 99) && l.all goodJ then textTo l l.length else ⟨#[]⟩
/-- The deed that a line says. -/
def rdL (l : List UInt8) : Option J := (rdI (partsB ⟨l.toArray⟩)).map fun (k, o, t) => ⟨k, o, t⟩
/-- At most f deeds, line by line, and how many bytes their lines have. -/
def rjGo : Nat → List UInt8 → List J × Nat
  | 0, _ => ([], 0)
  | f + 1, l => if 10 ∈ l then (match rdL (l.takeWhile (· != 10)) with
      | none => ([], 0)
      | some d => (d :: (rjGo f (l.drop ((l.takeWhile (· != 10)).length + 1))).1, (l.takeWhile (· != 10)).length + 1 + (rjGo f (l.drop ((l.takeWhile (· != 10)).length + 1))).2)) else ([], 0)
def rjR (s : ByteArray) : List J × Nat := rjGo 99 s.data.toList

theorem rdL_iff {l : List UInt8} {d : J} : rdL l = some d ↔ l ≠ [] ∧ (dtJ d).data.toList = l := by
  unfold rdL
  rw [Option.map_eq_some_iff]
  have hd : (⟨l.toArray⟩ : ByteArray).data.toList = l := by simp
  have hsz : (⟨l.toArray⟩ : ByteArray).size = l.length := by rw [← size_len, hd]
  constructor
  · rintro ⟨⟨k, o, t⟩, h, rfl⟩
    obtain ⟨h1, h2⟩ := (rdI_iff (parts_cut _) k o t).1 h
    refine ⟨fun e => h1 (by rw [hsz, e]; rfl), ?_⟩
    show (dtB k o t).data.toList = l
    rw [h2, hd]
  · rintro ⟨h1, h2⟩
    refine ⟨(d.s, d.d, d.g), (rdI_iff (parts_cut _) d.s d.d d.g).2 ⟨?_, ?_⟩, rfl⟩
    · rw [hsz]; exact fun e => h1 (List.length_eq_zero_iff.1 e)
    · apply ext_list; rw [hd]; exact h2
theorem dt_no10 (d : J) : 10 ∉ (dtJ d).data.toList := by
  intro hm
  by_cases h0 : (dtJ d).size = 0
  · have : (dtJ d).data.toList = [] := List.length_eq_zero_iff.1 (by rw [size_len]; exact h0)
    rw [this] at hm; cases hm
  · obtain ⟨h1, h2, h3, h4⟩ := good_parts (s := dtJ d) h0 rfl
    have hk := wi_iff.1 h1
    have ho := wi_iff.1 h2
    have ht := wi_iff.1 h3
    have hn : ∀ b ∈ (nameB d.s).data.toList, b ≠ 10 := by rcases kind_five hk with e | e | e | e | e <;> rw [e] <;> decide
    have hnum : ∀ {n : Int}, 0 ≤ n → ∀ b ∈ (numB n).data.toList, b ≠ 10 := fun {n} h b hb e => by
      rw [numB_data n h] at hb
      have := (dec_props n.toNat).1 b hb
      subst e
      exact absurd this.1 (by decide)
    rcases htw : twoB d.s
    · have hg : d.g = 0 := by
        rcases h4 with h4 | h4
        · rw [htw] at h4; cases h4
        · exact h4
      have e : (dtJ d).data.toList = _ := (show dtJ d = dtB d.s d.d 0 by unfold dtJ; rw [hg]) ▸ dt_one h1 h2 htw
      rw [e] at hm
      simp only [List.mem_append, List.mem_cons] at hm
      rcases hm with hm | hm | hm
      · exact hn _ hm rfl
      · exact absurd hm (by decide)
      · exact hnum (by omega) _ hm rfl
    · have e : (dtJ d).data.toList = _ := dt_two h1 h2 h3 htw
      rw [e] at hm
      simp only [List.mem_append, List.mem_cons] at hm
      rcases hm with hm | hm | hm | hm | hm
      · exact hn _ hm rfl
      · exact absurd hm (by decide)
      · exact hnum (by omega) _ hm rfl
      · exact absurd hm (by decide)
      · exact hnum (by omega) _ hm rfl

theorem tw_app {a l : List UInt8} (h : 10 ∉ a) : (a ++ 10 :: l).takeWhile (· != 10) = a := by
  rw [List.takeWhile_append_of_pos]
  · simp
  · intro x hx
    simp only [bne_iff_ne, ne_eq]
    rintro rfl; exact h hx
/-- A line ahead. -/
theorem rj_line {f : Nat} {d : J} {a l : List UInt8} (hd : rdL a = some d) (h : 10 ∉ a) : rjGo (f + 1) (a ++ 10 :: l) = (d :: (rjGo f l).1, a.length + 1 + (rjGo f l).2) := by
  have hm : 10 ∈ a ++ 10 :: l := by simp
  rw [rjGo, if_pos hm, tw_app h, hd]
  simp only
  rw [show (a ++ 10 :: l).drop (a.length + 1) = l by rw [List.drop_append]; simp]
theorem split10 {l : List UInt8} (h : 10 ∈ l) : ∃ a r, l = a ++ 10 :: r ∧ 10 ∉ a := by
  induction l with
  | nil => cases h
  | cons b l ih =>
    by_cases hb : b = 10
    · subst hb; exact ⟨[], l, rfl, by simp⟩
    · obtain ⟨a, r, e, hn⟩ := ih ((List.mem_cons.1 h).resolve_left fun e => hb e.symm)
      refine ⟨b :: a, r, by rw [e]; rfl, ?_⟩
      simp only [List.mem_cons, not_or]
      exact ⟨fun e => hb e.symm, hn⟩
theorem rj_cases (f : Nat) (l : List UInt8) : rjGo f l = ([], 0) ∨ ∃ f' d a r, f = f' + 1 ∧ l = a ++ 10 :: r ∧ 10 ∉ a ∧ rdL a = some d ∧ rjGo f l = (d :: (rjGo f' r).1, a.length + 1 + (rjGo f' r).2) := by
  cases f with
  | zero => exact .inl rfl
  | succ f =>
    by_cases h : 10 ∈ l
    · obtain ⟨a, r, rfl, hn⟩ := split10 h
      cases hd : rdL a with
      | none =>
        left
        rw [rjGo, if_pos h, tw_app hn, hd]
      | some d => exact .inr ⟨f, d, a, r, rfl, rfl, hn, hd, rj_line hd hn⟩
    · left
      rw [rjGo, if_neg h]
theorem rj_le : ∀ (f : Nat) (l : List UInt8), (rjGo f l).2 ≤ l.length ∧ (rjGo f l).1.length ≤ f ∧ (rjGo f l).1.length ≤ (rjGo f l).2 := by
  intro f
  induction f with
  | zero => intro l; simp [rjGo]
  | succ f ih =>
    intro l
    rcases rj_cases (f + 1) l with e | ⟨f', d, a, r, hf, rfl, hn, hd, e⟩
    · rw [e]; simp
    · obtain rfl : f = f' := by omega
      have := ih r
      rw [e]
      simp only [List.length_append, List.length_cons]; omega
/-- Of a beginning the first ones are read. -/
theorem rj_take : ∀ (f : Nat) (l : List UInt8) (k : Nat), (rjGo f (l.take k)).1 = (rjGo f l).1.take (rjGo f (l.take k)).1.length ∧ (rjGo f (l.take k)).1.length ≤ (rjGo f l).1.length ∧ (rjGo f (l.take k)).2 ≤ (rjGo f l).2 := by
  intro f
  induction f with
  | zero => intro l k; simp [rjGo]
  | succ f ih =>
    intro l k
    rcases rj_cases (f + 1) (l.take k) with e | ⟨f', d, a, r, hf, hl, hn, hd, e⟩
    · rw [e]; simp
    · obtain rfl : f = f' := by omega
      have hk : a.length + 1 ≤ k ∧ l = a ++ 10 :: l.drop (a.length + 1) ∧ r = (l.drop (a.length + 1)).take (k - (a.length + 1)) := by
        have hlen : (l.take k).length = a.length + 1 + r.length := by rw [hl]; simp; omega
        rw [List.length_take] at hlen
        have h1 : a.length + 1 ≤ k := by omega
        have h2 : l.take (a.length + 1) = a ++ [10] := by
          have := congrArg (List.take (a.length + 1)) hl
          rw [List.take_take, Nat.min_eq_left h1] at this
          rw [this, show a ++ 10 :: r = (a ++ [10]) ++ r by simp, List.take_left' (by simp)]
        refine ⟨h1, ?_, ?_⟩
        · conv => lhs; rw [← List.take_append_drop (a.length + 1) l, h2]
          simp
        · have := congrArg (List.drop (a.length + 1)) hl
          rw [show a ++ 10 :: r = (a ++ [10]) ++ r by simp, List.drop_left' (by simp), List.drop_take] at this
          exact this.symm
      obtain ⟨h1, h2, h3⟩ := hk
      have e2 : rjGo (f + 1) l = (d :: (rjGo f (l.drop (a.length + 1))).1, a.length + 1 + (rjGo f (l.drop (a.length + 1))).2) := by
        rw [h2, rj_line hd hn, ← h2]
      obtain ⟨i1, i2, i3⟩ := ih (l.drop (a.length + 1)) (k - (a.length + 1))
      rw [← h3] at i1 i2 i3
      rw [e, e2]
      simp only [List.length_cons, List.take_succ_cons]
      refine ⟨by rw [← i1], by omega, by omega⟩
theorem textTo_data (l : List J) : ∀ k, k ≤ l.length → (textTo l k).data.toList = ((l.take k).map fun d => (dtJ d).data.toList ++ [10]).flatten
  | 0, _ => by simp [textTo]
  | k + 1, hk => by
    have ih := textTo_data l k (by omega)
    have hg : l.getD k ⟨0, 0, 0⟩ = l[k] := by simp [List.getD, List.getElem?_eq_getElem (show k < l.length by omega)]
    rw [textTo, hg]
    simp only [ByteArray.data_append, Array.toList_append, ih]
    rw [List.take_succ_eq_append_getElem (show k < l.length by omega), List.map_append, List.flatten_append]
    simp [nlB, -List.map_take]
theorem jt_good {l : List J} (h : (jtR l).size ≠ 0) : l.length ≤ 99 ∧ (∀ d ∈ l, goodJ d = true) ∧ jtR l = textTo l l.length := by
  unfold jtR at h ⊢
  split at h
  · rename_i hc
    rw [Bool.and_eq_true, decide_eq_true_iff, List.all_eq_true] at hc
    exact ⟨hc.1, hc.2, by rw [if_pos (by rw [Bool.and_eq_true, decide_eq_true_iff, List.all_eq_true]; exact hc)]⟩
  · exact absurd rfl h
theorem good_rd {d : J} (h : goodJ d = true) : rdL (dtJ d).data.toList = some d := by
  unfold goodJ at h
  rw [bne_iff_ne] at h
  exact rdL_iff.2 ⟨fun e => h (by rw [← size_len, e]; rfl), rfl⟩
theorem rj_text : ∀ (l : List J) (f : Nat) (r : List UInt8), l.length ≤ f → (∀ d ∈ l, goodJ d = true) →
    rjGo f ((l.map fun d => (dtJ d).data.toList ++ [10]).flatten ++ r) = (l ++ (rjGo (f - l.length) r).1, (l.map fun d => (dtJ d).data.toList ++ [10]).flatten.length + (rjGo (f - l.length) r).2)
  | [], f, r, _, _ => by simp
  | d :: l, f, r, hf, hg => by
    obtain ⟨f, rfl⟩ : ∃ g, f = g + 1 := ⟨f - 1, by simp at hf; omega⟩
    have ih := rj_text l f r (by simpa using hf) (fun d hd => hg d (by simp [hd]))
    have e : ((d :: l).map fun d => (dtJ d).data.toList ++ [10]).flatten ++ r = (dtJ d).data.toList ++ 10 :: ((l.map fun d => (dtJ d).data.toList ++ [10]).flatten ++ r) := by simp
    rw [e, rj_line (good_rd (hg d (by simp))) (dt_no10 d), ih]
    simp only [List.length_cons, List.cons_append, Nat.add_sub_add_right, List.map_cons, List.flatten_cons, List.length_append, Prod.mk.injEq, true_and, List.length_nil]
    omega
/-- A journal's text is read whole. -/
theorem rj_jt {l : List J} (h : (jtR l).size ≠ 0) : rjR (jtR l) = (l, (jtR l).size) := by
  obtain ⟨h1, h2, h3⟩ := jt_good h
  have hd : (jtR l).data.toList = (l.map fun d => (dtJ d).data.toList ++ [10]).flatten := by
    rw [h3, textTo_data l _ (Nat.le_refl _), List.take_of_length_le (Nat.le_refl _)]
  have e := rj_text l 99 [] h1 h2
  have hn : ∀ f, rjGo f [] = ([], 0) := fun f => by cases f <;> simp [rjGo]
  rw [List.append_nil, hn, List.append_nil] at e
  unfold rjR
  rw [hd, e, Nat.add_zero, ← hd, size_len]
/-- What was read has the text that was read. -/
theorem rj_back : ∀ (f : Nat) (l : List UInt8), (∀ d ∈ (rjGo f l).1, goodJ d = true) ∧ ((rjGo f l).1.map fun d => (dtJ d).data.toList ++ [10]).flatten = l.take (rjGo f l).2 := by
  intro f
  induction f with
  | zero => intro l; simp [rjGo]
  | succ f ih =>
    intro l
    rcases rj_cases (f + 1) l with e | ⟨f', d, a, r, hf, rfl, hn, hd, e⟩
    · rw [e]; simp
    · obtain rfl : f = f' := by omega
      obtain ⟨i1, i2⟩ := ih r
      obtain ⟨d1, d2⟩ := rdL_iff.1 hd
      rw [e]
      constructor
      · intro x hx
        rcases List.mem_cons.1 hx with rfl | hx
        · unfold goodJ
          rw [bne_iff_ne, ← size_len, d2]
          exact fun e => d1 (List.length_eq_zero_iff.1 e)
        · exact i1 x hx
      · simp only [List.map_cons, List.flatten_cons, d2, i2]
        rw [show a ++ 10 :: r = (a ++ [10]) ++ r by simp, show a.length + 1 + (rjGo f r).2 = (a ++ [10]).length + (rjGo f r).2 by simp]
        rw [List.take_length_add_append]
theorem rj_good (s : ByteArray) : ∀ d ∈ (rjR s).1, goodJ d = true := (rj_back 99 s.data.toList).1
theorem jt_back (s : ByteArray) : (jtR (rjR s).1).data.toList = s.data.toList.take (rjR s).2 := by
  obtain ⟨h1, h2⟩ := rj_back 99 s.data.toList
  have hl := (rj_le 99 s.data.toList).2.1
  unfold jtR
  rw [if_pos (by rw [Bool.and_eq_true, decide_eq_true_iff, List.all_eq_true]; exact ⟨hl, h1⟩), textTo_data _ _ (Nat.le_refl _), List.take_of_length_le (Nat.le_refl _)]
  exact h2
end Go.Proofs.YtbafifilklfafaaDoor
