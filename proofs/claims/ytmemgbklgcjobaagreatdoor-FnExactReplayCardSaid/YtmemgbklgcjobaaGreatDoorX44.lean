/-
  Parts of the proofs over mills, of: PlainRD, PlainJ, JournA. Conditions: each theorem states its own.
-/
import Derived.Test.YtmemgbklgcjobaaGreatDoorX43
set_option linter.unusedSimpArgs false
set_option linter.unusedVariables false
set_option maxRecDepth 10000
namespace Go.Proofs.YtmemgbklgcjobaaGreatDoor
open Go.RowKit
def valG (acc : Int) (l : List UInt8) : Int := l.foldl (fun n b => 10 * n + ((b.toNat : Int) - 48)) acc
def allD (l : List UInt8) : Prop := ∀ b ∈ l, 48 ≤ b.toNat ∧ b.toNat ≤ 57
theorem valG_cons (acc : Int) (b : UInt8) (l : List UInt8) : valG acc (b :: l) = valG (10 * acc + ((b.toNat : Int) - 48)) l := rfl
theorem valG_snoc (acc : Int) (l : List UInt8) (b : UInt8) : valG acc (l ++ [b]) = 10 * valG acc l + ((b.toNat : Int) - 48) := by simp [valG]
theorem valG_ge : ∀ (l : List UInt8) (acc : Int), 0 ≤ acc → allD l → acc ≤ valG acc l
  | [], acc, _, _ => by simp [valG]
  | b :: l, acc, h0, hd => by
    have hb := hd b (by simp)
    have := valG_ge l (10 * acc + ((b.toNat : Int) - 48)) (by omega) (fun x hx => hd x (by simp [hx]))
    rw [valG_cons]; omega
theorem rdGo_val : ∀ (l : List UInt8) (acc m : Int), 0 ≤ acc → acc ≤ 9999 → (rdGo acc l = some m ↔ allD l ∧ valG acc l = m ∧ m ≤ 9999)
  | [], acc, m, h0, h9 => by
    simp only [rdGo, Option.some.injEq, valG, List.foldl_nil, allD, List.not_mem_nil, false_implies, implies_true, true_and]
    constructor
    · rintro rfl; exact ⟨rfl, h9⟩
    · rintro ⟨h, _⟩; exact h
  | b :: l, acc, m, h0, h9 => by
    by_cases hb : b.toNat < 48 ∨ 57 < b.toNat
    · rw [rdGo_none hb]
      constructor
      · intro h; cases h
      · rintro ⟨hd, _⟩; have := hd b (by simp); omega
    · by_cases hg : 9999 < 10 * acc + ((b.toNat : Int) - 48)
      · rw [rdGo_big hb hg]
        constructor
        · intro h; cases h
        · rintro ⟨hd, hv, hm⟩
          have := valG_ge l (10 * acc + ((b.toNat : Int) - 48)) (by omega) (fun x hx => hd x (by simp [hx]))
          rw [valG_cons] at hv; omega
      · rw [rdGo_step hb hg, rdGo_val l _ m (by omega) (by omega), valG_cons]
        constructor
        · rintro ⟨hd, h⟩
          refine ⟨fun x hx => ?_, h⟩
          rcases List.mem_cons.1 hx with rfl | hx
          · omega
          · exact hd x hx
        · rintro ⟨hd, h⟩; exact ⟨fun x hx => hd x (by simp [hx]), h⟩
theorem lrGo_val : ∀ (l : List UInt8) (acc m : Int), (lrGo acc l = some m ↔ allD l ∧ valG acc l = m)
  | [], acc, m => by simp [lrGo, valG, allD]
  | b :: l, acc, m => by
    by_cases hb : b.toNat < 48 ∨ 57 < b.toNat
    · rw [lrGo_none hb]
      constructor
      · intro h; cases h
      · rintro ⟨hd, _⟩; have := hd b (by simp); omega
    · rw [lrGo_step hb, lrGo_val l _ m, valG_cons]
      constructor
      · rintro ⟨hd, h⟩
        refine ⟨fun x hx => ?_, h⟩
        rcases List.mem_cons.1 hx with rfl | hx
        · omega
        · exact hd x hx
      · rintro ⟨hd, h⟩; exact ⟨fun x hx => hd x (by simp [hx]), h⟩
def canon (l : List UInt8) : Prop := l ≠ [] ∧ allD l ∧ ¬ ((l.headD 0).toNat = 48 ∧ 1 < l.length)
theorem byte_digit {d : Nat} (h : d < 10) : (UInt8.ofNat (48 + d)).toNat = 48 + d := by simp; omega
theorem dec_props (u : Nat) : allD (Lib.decDigits u) ∧ Lib.decDigits u ≠ [] ∧ valG 0 (Lib.decDigits u) = u ∧ (u ≠ 0 → ((Lib.decDigits u).headD 0).toNat ≠ 48) := by
  induction u using Nat.strongRecOn with
  | _ u ih =>
    by_cases h : u < 10
    · rw [Lib.decDigits, dif_pos h]
      refine ⟨fun b hb => ?_, by simp, ?_, fun h0 => ?_⟩
      · simp only [List.mem_singleton] at hb; subst hb; rw [byte_digit h]; omega
      · rw [valG_cons, byte_digit h]; simp [valG]; omega
      · simp only [List.headD_cons]; rw [byte_digit h]; omega
    · rw [Lib.decDigits, dif_neg h]
      obtain ⟨h1, h2, h3, h4⟩ := ih (u / 10) (by omega)
      have hm : u % 10 < 10 := Nat.mod_lt _ (by omega)
      refine ⟨fun b hb => ?_, by simp, ?_, fun h0 => ?_⟩
      · rcases List.mem_append.1 hb with hb | hb
        · exact h1 b hb
        · simp only [List.mem_singleton] at hb; subst hb; rw [byte_digit hm]; omega
      · rw [valG_snoc, h3, byte_digit hm]; omega
      · have := h4 (by omega)
        cases hd : Lib.decDigits (u / 10) with
        | nil => exact absurd hd h2
        | cons b l => rw [hd] at this; simpa using this
theorem canon_dec (u : Nat) : canon (Lib.decDigits u) := by
  obtain ⟨h1, h2, h3, h4⟩ := dec_props u
  refine ⟨h2, h1, fun ⟨h5, h6⟩ => ?_⟩
  by_cases h0 : u = 0
  · subst h0
    rw [Lib.decDigits, dif_pos (by omega)] at h6
    simp at h6
  · exact h4 h0 h5
theorem snoc_cases (l : List UInt8) : l = [] ∨ ∃ a b, l = a ++ [b] := by
  rcases List.eq_nil_or_concat l with h | ⟨a, b, h⟩
  · exact .inl h
  · exact .inr ⟨a, b, by rw [h]; simp⟩
theorem dec_canon : ∀ (n : Nat) (l : List UInt8), l.length = n → canon l → Lib.decDigits (valG 0 l).toNat = l ∧ 0 ≤ valG 0 l
  | 0, l, hn, hc => absurd (List.length_eq_zero_iff.1 hn) hc.1
  | n + 1, l, hn, ⟨h1, h2, h3⟩ => by
    rcases snoc_cases l with h | ⟨a, b, rfl⟩
    · exact absurd h h1
    have hb := h2 b (by simp)
    rw [valG_snoc]
    cases a with
    | nil =>
      simp only [valG, List.foldl_nil, List.nil_append]
      have e : (10 * 0 + ((b.toNat : Int) - 48)).toNat = b.toNat - 48 := by omega
      rw [e, Lib.decDigits, dif_pos (by omega)]
      refine ⟨?_, by omega⟩
      congr 1
      apply UInt8.toNat_inj.1
      rw [byte_digit (by omega)]; omega
    | cons c a =>
      have hca : canon (c :: a) := by
        refine ⟨by simp, fun x hx => h2 x (List.mem_append_left _ hx), fun ⟨h5, h6⟩ => h3 ⟨by simpa using h5, by simp at h6 ⊢⟩⟩
      have hc48 : c.toNat ≠ 48 := fun e => h3 ⟨by simpa using e, by simp⟩
      have hc2 := h2 c (by simp)
      have hpos : 1 ≤ valG 0 (c :: a) := by
        rw [valG_cons]
        have := valG_ge a (10 * 0 + ((c.toNat : Int) - 48)) (by omega) (fun x hx => h2 x (by simp [hx]))
        omega
      obtain ⟨i1, i2⟩ := dec_canon n (c :: a) (by simpa using hn) hca
      generalize valG 0 (c :: a) = v at *
      refine ⟨?_, by omega⟩
      have e : (10 * v + ((b.toNat : Int) - 48)).toNat = 10 * v.toNat + (b.toNat - 48) := by omega
      rw [e, Lib.decDigits, dif_neg (by omega), show (10 * v.toNat + (b.toNat - 48)) / 10 = v.toNat by omega, i1, show (10 * v.toNat + (b.toNat - 48)) % 10 = b.toNat - 48 by omega]
      congr 2
      apply UInt8.toNat_inj.1
      rw [byte_digit (by omega)]; omega
theorem dec_len (u : Nat) : (Lib.decDigits u).length ≤ 4 ↔ u ≤ 9999 := by
  rw [Lib.decDigits_length]
  by_cases h1 : u < 10
  · rw [Lib.nDigits_small h1]; omega
  rw [Lib.nDigits_big h1]
  by_cases h2 : u / 10 < 10
  · rw [Lib.nDigits_small h2]; omega
  rw [Lib.nDigits_big h2]
  by_cases h3 : u / 10 / 10 < 10
  · rw [Lib.nDigits_small h3]; omega
  rw [Lib.nDigits_big h3]
  by_cases h4 : u / 10 / 10 / 10 < 10
  · rw [Lib.nDigits_small h4]; omega
  rw [Lib.nDigits_big h4]
  have : 1 ≤ Lib.nDigits (u / 10 / 10 / 10 / 10) := by
    unfold Lib.nDigits; split <;> omega
  omega
theorem numB_data (n : Int) (h : 0 ≤ n) : (numB n).data.toList = Lib.decDigits n.toNat := by
  obtain ⟨u, rfl⟩ : ∃ u : Nat, n = u := ⟨n.toNat, by omega⟩
  rw [numB, Lib.itoa_nonneg]
  simp
theorem ext_list {a b : ByteArray} (h : a.data.toList = b.data.toList) : a = b := ByteArray.ext (Array.toList_inj.1 h)
theorem canon_iff (p : ByteArray) : canon p.data.toList ↔ (p.size ≠ 0 ∧ allD p.data.toList ∧ ¬ ((p.data.toList.headD 0).toNat = 48 ∧ 1 < p.size)) := by
  unfold canon
  rw [size_len]
  have : p.data.toList ≠ [] ↔ p.size ≠ 0 := by
    rw [← size_len]
    cases p.data.toList <;> simp
  rw [this]
theorem rdNum_val (p : ByteArray) (n : Int) : rdNum p = some n ↔ canon p.data.toList ∧ valG 0 p.data.toList = n ∧ n ≤ 9999 := by
  rw [canon_iff]
  unfold rdNum
  by_cases h0 : p.size = 0
  · rw [if_pos h0]; simp [h0]
  rw [if_neg h0]
  by_cases h1 : (p.data.toList.headD 0).toNat = 48 ∧ 1 < p.size
  · rw [if_pos h1]
    constructor
    · intro h; cases h
    · rintro ⟨⟨_, _, h⟩, _⟩; exact absurd h1 h
  rw [if_neg h1, rdGo_val _ _ _ (by omega) (by omega)]
  constructor
  · rintro ⟨a, b⟩; exact ⟨⟨h0, a, h1⟩, b⟩
  · rintro ⟨⟨_, a, _⟩, b⟩; exact ⟨a, b⟩
theorem rdNum_iff (p : ByteArray) (n : Int) : rdNum p = some n ↔ 0 ≤ n ∧ n ≤ 9999 ∧ numB n = p := by
  rw [rdNum_val]
  constructor
  · rintro ⟨hc, rfl, h9⟩
    obtain ⟨h1, h2⟩ := dec_canon _ _ rfl hc
    exact ⟨h2, h9, ext_list (by rw [numB_data _ h2, h1])⟩
  · rintro ⟨h0, h9, rfl⟩
    rw [numB_data _ h0]
    refine ⟨canon_dec _, ?_, h9⟩
    rw [(dec_props _).2.2.1]; omega
theorem lrNum_eq (p : ByteArray) : lrNum p = (rdNum p).getD (-1) := by
  by_cases hc : canon p.data.toList
  · obtain ⟨h1, h2⟩ := dec_canon _ _ rfl hc
    have hc' := (canon_iff p).1 hc
    have hl : p.size ≤ 4 ↔ valG 0 p.data.toList ≤ 9999 := by
      have := dec_len (valG 0 p.data.toList).toNat
      rw [h1, size_len] at this
      rw [this]; omega
    by_cases h4 : p.size ≤ 4
    · have hr : rdNum p = some (valG 0 p.data.toList) := (rdNum_val p _).2 ⟨hc, rfl, hl.1 h4⟩
      have hg : lrGo 0 p.data.toList = some (valG 0 p.data.toList) := (lrGo_val _ _ _).2 ⟨hc'.2.1, rfl⟩
      rw [hr, lrNum, if_neg (by omega), if_neg hc'.2.2, hg]
    · have hr : rdNum p = none := by
        cases e : rdNum p with
        | none => rfl
        | some m =>
          obtain ⟨_, h5, h6⟩ := (rdNum_val p m).1 e
          exact absurd (hl.2 (by omega)) h4
      rw [hr, lrNum, if_pos (.inr (by omega))]; rfl
  · have hr : rdNum p = none := by
      cases e : rdNum p with
      | none => rfl
      | some m => exact absurd ((rdNum_val p m).1 e).1 hc
    rw [hr, lrNum]
    by_cases h1 : p.size < 1 ∨ 4 < p.size
    · rw [if_pos h1]; rfl
    rw [if_neg h1]
    by_cases h2 : (p.data.toList.headD 0).toNat = 48 ∧ 1 < p.size
    · rw [if_pos h2]; rfl
    rw [if_neg h2]
    cases e : lrGo 0 p.data.toList with
    | none => rfl
    | some m => exact absurd ((canon_iff p).2 ⟨by omega, ((lrGo_val _ _ _).1 e).1, h2⟩) hc
theorem cut_at : ∀ (a l : List UInt8), (∀ b ∈ a, b ≠ 32) → cut32 (a ++ 32 :: l) = a :: cut32 l
  | [], l, _ => by rw [List.nil_append, cut32, if_pos rfl]
  | b :: a, l, h => by
    rw [List.cons_append, cut32, if_neg (h b (by simp)), cut_at a l (fun x hx => h x (by simp [hx]))]; rfl
theorem cut_whole : ∀ (a : List UInt8), (∀ b ∈ a, b ≠ 32) → cut32 a = [a]
  | [], _ => rfl
  | b :: a, h => by rw [cut32, if_neg (h b (by simp)), cut_whole a (fun x hx => h x (by simp [hx]))]; rfl
theorem cut_join1 : ∀ (l p : List UInt8), cut32 l = [p] → l = p
  | [], p, h => by simp [cut32] at h; exact h.symm
  | b :: l, p, h => by
    rw [cut32] at h
    split at h
    · have := cut32_ne l
      simp only [List.cons.injEq] at h
      exact absurd h.2 this
    · cases hc : cut32 l with
      | nil => exact absurd hc (cut32_ne l)
      | cons q qs =>
        rw [hc] at h
        simp only [glue, List.cons.injEq] at h
        obtain ⟨h1, rfl⟩ := h
        rw [cut_join1 l q hc, ← h1]; rfl
theorem cut_joinc : ∀ (l p : List UInt8) (r : List (List UInt8)), cut32 l = p :: r → r ≠ [] → ∃ l', l = p ++ 32 :: l' ∧ cut32 l' = r
  | [], p, r, h, hr => by simp [cut32] at h; exact absurd h.2 hr
  | b :: l, p, r, h, hr => by
    rw [cut32] at h
    split at h
    · rename_i hb
      simp only [List.cons.injEq] at h
      obtain ⟨rfl, h⟩ := h
      exact ⟨l, by rw [hb]; rfl, h⟩
    · cases hc : cut32 l with
      | nil => exact absurd hc (cut32_ne l)
      | cons q qs =>
        rw [hc] at h
        simp only [glue, List.cons.injEq] at h
        obtain ⟨h1, rfl⟩ := h
        obtain ⟨l', e1, e2⟩ := cut_joinc l q qs hc hr
        exact ⟨l', by rw [e1, ← h1]; rfl, e2⟩
theorem kind_five {k : Int} (h : 0 ≤ k ∧ k ≤ 4) : k = 0 ∨ k = 1 ∨ k = 2 ∨ k = 3 ∨ k = 4 := by omega
theorem name_no32 {k : Int} (h : 0 ≤ k ∧ k ≤ 4) : ∀ b ∈ (nameB k).data.toList, b ≠ 32 := by
  rcases kind_five h with rfl | rfl | rfl | rfl | rfl <;> decide
theorem num_no32 {n : Int} (h : 0 ≤ n) : ∀ b ∈ (numB n).data.toList, b ≠ 32 := by
  intro b hb e
  rw [numB_data n h] at hb
  have := (dec_props n.toNat).1 b hb
  rw [e] at this
  exact absurd this.1 (by decide)
theorem kind_name {k : Int} (h : 0 ≤ k ∧ k ≤ 4) : kindB (nameB k) = k := by
  rcases kind_five h with rfl | rfl | rfl | rfl | rfl <;> decide
theorem kind_back {a : ByteArray} (h : 0 ≤ kindB a) : a = nameB (kindB a) := by
  by_cases h0 : a = nameB 0
  · rw [h0, kind_name (by omega)]
  by_cases h1 : a = nameB 1
  · rw [h1, kind_name (by omega)]
  by_cases h2 : a = nameB 2
  · rw [h2, kind_name (by omega)]
  by_cases h3 : a = nameB 3
  · rw [h3, kind_name (by omega)]
  by_cases h4 : a = nameB 4
  · rw [h4, kind_name (by omega)]
  rw [kindB, if_neg h0, if_neg h1, if_neg h2, if_neg h3, if_neg h4] at h
  omega
theorem dt_one {k o : Int} (hk : wi k 0 4 = true) (ho : wi o 0 9999 = true) (h2 : twoB k = false) : (dtB k o 0).data.toList = (nameB k).data.toList ++ 32 :: (numB o).data.toList := by
  have e : dtB k o 0 = (nameB k ++ spB) ++ numB o := by
    rw [dtB, hk, ho, h2]; rfl
  rw [e]
  simp [spB]
theorem dt_two {k o t : Int} (hk : wi k 0 4 = true) (ho : wi o 0 9999 = true) (ht : wi t 0 9999 = true) (h2 : twoB k = true) :
    (dtB k o t).data.toList = (nameB k).data.toList ++ 32 :: ((numB o).data.toList ++ 32 :: (numB t).data.toList) := by
  have e : dtB k o t = ((nameB k ++ spB) ++ numB o) ++ spB ++ numB t := by
    rw [dtB, hk, ho, ht, h2]; rfl
  rw [e]
  simp [spB]
theorem good_parts {k o t : Int} {s : ByteArray} (hs : s.size ≠ 0) (h : dtB k o t = s) : wi k 0 4 = true ∧ wi o 0 9999 = true ∧ wi t 0 9999 = true ∧ (twoB k = true ∨ t = 0) := by
  rcases h1 : (wi k 0 4 && (wi o 0 9999 && (wi t 0 9999 && (twoB k || t == 0))))
  · exfalso
    apply hs
    rw [← h, dtB, h1]
    rfl
  · simpa using h1
theorem list_of_data {L : List ByteArray} {M : List ByteArray} (h : L.map (·.data.toList) = M.map (·.data.toList)) : L = M := by
  induction L generalizing M with
  | nil => cases M <;> simp_all
  | cons a L ih =>
    cases M with
    | nil => simp at h
    | cons b M =>
      simp only [List.map_cons, List.cons.injEq] at h
      rw [ext_list h.1, ih h.2]
theorem good_list {k o t : Int} {s : ByteArray} {L : List ByteArray} (hL : L.map (·.data.toList) = cut32 s.data.toList) (hs : s.size ≠ 0) (h : dtB k o t = s) :
    L = if twoB k then [nameB k, numB o, numB t] else [nameB k, numB o] := by
  obtain ⟨h1, h2, h3, h4⟩ := good_parts hs h
  have hk := wi_iff.1 h1
  have ho := wi_iff.1 h2
  have ht := wi_iff.1 h3
  apply list_of_data
  rw [hL, ← h]
  rcases h5 : twoB k
  · obtain rfl : t = 0 := by rcases h4 with h4 | h4; · rw [h5] at h4; cases h4
                             · exact h4
    rw [dt_one h1 h2 h5, cut_at _ _ (name_no32 hk), cut_whole _ (num_no32 ho.1)]
    rfl
  · rw [dt_two h1 h2 h3 h5, cut_at _ _ (name_no32 hk), cut_at _ _ (num_no32 ho.1), cut_whole _ (num_no32 ht.1)]
    rfl
theorem rdS_iff {s : ByteArray} {L : List ByteArray} (hL : L.map (·.data.toList) = cut32 s.data.toList) (k o t : Int) : rdS L s = some (k, o, t) ↔ s.size ≠ 0 ∧ dtB k o t = s := by
  constructor
  · intro h
    obtain ⟨K, hK⟩ : ∃ K, kindB (L.getD 0 ⟨#[]⟩) = K := ⟨_, rfl⟩
    obtain ⟨O, hO⟩ : ∃ O, (if 1 < L.length then lrNum (L.getD 1 ⟨#[]⟩) else 0) = O := ⟨_, rfl⟩
    obtain ⟨T, hT⟩ : ∃ T, (if 2 < L.length then lrNum (L.getD 2 ⟨#[]⟩) else 0) = T := ⟨_, rfl⟩
    have e : rdS L s = if s.size = 0 ∨ dtB K O T ≠ s then none else some (K, O, T) := by rw [← hK, ← hO, ← hT]; rfl
    rw [e] at h
    by_cases hn : s.size = 0 ∨ dtB K O T ≠ s
    · rw [if_pos hn] at h; cases h
    · rw [if_neg hn] at h
      simp only [Option.some.injEq, Prod.mk.injEq] at h
      obtain ⟨rfl, rfl, rfl⟩ := h
      exact ⟨fun e => hn (.inl e), Classical.byContradiction fun e => hn (.inr e)⟩
  · rintro ⟨hs, h⟩
    have hl := good_list hL hs h
    obtain ⟨h1, h2, h3, h4⟩ := good_parts hs h
    have hk := wi_iff.1 h1
    have ho := wi_iff.1 h2
    have ht := wi_iff.1 h3
    have no : lrNum (numB o) = o := by rw [lrNum_eq, (rdNum_iff _ o).2 ⟨ho.1, ho.2, rfl⟩]; rfl
    have nt : lrNum (numB t) = t := by rw [lrNum_eq, (rdNum_iff _ t).2 ⟨ht.1, ht.2, rfl⟩]; rfl
    rcases h5 : twoB k
    · obtain rfl : t = 0 := by rcases h4 with h4 | h4; · rw [h5] at h4; cases h4
                               · exact h4
      rw [h5] at hl
      simp only [Bool.false_eq_true, if_false] at hl
      subst hl
      unfold rdS
      simp only [List.getD_cons_zero, List.getD_cons_succ, List.length_cons, List.length_nil, kind_name hk, no]
      rw [if_neg]
      · rfl
      · rintro (e | e)
        · exact hs e
        · exact e h
    · rw [h5] at hl
      simp only [if_true] at hl
      subst hl
      unfold rdS
      simp only [List.getD_cons_zero, List.getD_cons_succ, List.length_cons, List.length_nil, kind_name hk, no, nt]
      rw [if_neg]
      · rfl
      · rintro (e | e)
        · exact hs e
        · exact e h
theorem rdI_iff {s : ByteArray} {L : List ByteArray} (hL : L.map (·.data.toList) = cut32 s.data.toList) (k o t : Int) : rdI L = some (k, o, t) ↔ s.size ≠ 0 ∧ dtB k o t = s := by
  constructor
  · intro h
    obtain ⟨K, hK⟩ : ∃ K, kindB (L.getD 0 ⟨#[]⟩) = K := ⟨_, rfl⟩
    have hKr := kindB_range (L.getD 0 ⟨#[]⟩)
    have hb := @kind_back (L.getD 0 ⟨#[]⟩)
    rw [hK] at hKr hb
    unfold rdI at h
    simp only [hK] at h
    by_cases hn : K < 0
    · rw [if_pos hn] at h; cases h
    rw [if_neg hn] at h
    have hb := hb (by omega)
    have hk : wi K 0 4 = true := wi_iff.2 ⟨by omega, by omega⟩
    rcases h5 : twoB K
    · rw [h5] at h
      simp only [Bool.false_eq_true, if_false] at h
      by_cases hl : L.length = 2
      · rw [if_neg (by omega)] at h
        match L, hl, hL, hb, h with
        | [x0, x1], _, hL, hb, h =>
          simp only [List.getD_cons_zero, List.getD_cons_succ] at hb h
          cases e1 : rdNum x1 with
          | none => rw [e1] at h; cases h
          | some n =>
            rw [e1] at h
            simp only [Option.some.injEq, Prod.mk.injEq] at h
            obtain ⟨rfl, rfl, rfl⟩ := h
            obtain ⟨n0, n9, hx1⟩ := (rdNum_iff _ _).1 e1
            obtain ⟨l', e2, e3⟩ := cut_joinc s.data.toList x0.data.toList [x1.data.toList] (by rw [← hL]; rfl) (by simp)
            have e4 := cut_join1 _ _ e3
            have hd : dtB K n 0 = s := ext_list (by rw [dt_one hk (wi_iff.2 ⟨n0, n9⟩) h5, e2, e4, hb, hx1])
            refine ⟨fun hz => ?_, hd⟩
            rw [← size_len, e2] at hz
            simp at hz
      · rw [if_pos hl] at h; cases h
    · rw [h5] at h
      simp only [if_true] at h
      by_cases hl : L.length = 3
      · rw [if_neg (by omega)] at h
        match L, hl, hL, hb, h with
        | [x0, x1, x2], _, hL, hb, h =>
          simp only [List.getD_cons_zero, List.getD_cons_succ] at hb h
          cases e1 : rdNum x1 with
          | none => rw [e1] at h; cases h
          | some n =>
            rw [e1] at h
            cases e6 : rdNum x2 with
            | none => rw [e6] at h; cases h
            | some n2 =>
              rw [e6] at h
              simp only [Option.some.injEq, Prod.mk.injEq] at h
              obtain ⟨rfl, rfl, rfl⟩ := h
              obtain ⟨n0, n9, hx1⟩ := (rdNum_iff _ _).1 e1
              obtain ⟨m0, m9, hx2⟩ := (rdNum_iff _ _).1 e6
              obtain ⟨l', e2, e3⟩ := cut_joinc s.data.toList x0.data.toList [x1.data.toList, x2.data.toList] (by rw [← hL]; rfl) (by simp)
              obtain ⟨l'', e7, e8⟩ := cut_joinc l' x1.data.toList [x2.data.toList] e3 (by simp)
              have e4 := cut_join1 _ _ e8
              have hd : dtB K n n2 = s := ext_list (by rw [dt_two hk (wi_iff.2 ⟨n0, n9⟩) (wi_iff.2 ⟨m0, m9⟩) h5, e2, e7, e4, hb, hx1, hx2])
              refine ⟨fun hz => ?_, hd⟩
              rw [← size_len, e2] at hz
              simp at hz
      · rw [if_pos hl] at h; cases h
  · rintro ⟨hs, h⟩
    have hl := good_list hL hs h
    obtain ⟨h1, h2, h3, h4⟩ := good_parts hs h
    have hk := wi_iff.1 h1
    have ho := wi_iff.1 h2
    have ht := wi_iff.1 h3
    have no : rdNum (numB o) = some o := (rdNum_iff _ o).2 ⟨ho.1, ho.2, rfl⟩
    have nt : rdNum (numB t) = some t := (rdNum_iff _ t).2 ⟨ht.1, ht.2, rfl⟩
    rcases h5 : twoB k
    · obtain rfl : t = 0 := by rcases h4 with h4 | h4; · rw [h5] at h4; cases h4
                               · exact h4
      rw [h5] at hl
      simp only [Bool.false_eq_true, if_false] at hl
      subst hl
      unfold rdI
      simp only [List.getD_cons_zero, List.getD_cons_succ, List.length_cons, List.length_nil, kind_name hk, no, h5]
      rw [if_neg (by omega)]
      rfl
    · rw [h5] at hl
      simp only [if_true] at hl
      subst hl
      unfold rdI
      simp only [List.getD_cons_zero, List.getD_cons_succ, List.length_cons, List.length_nil, kind_name hk, no, nt, h5]
      rw [if_neg (by omega)]
      rfl
theorem rd_same {s : ByteArray} {L M : List ByteArray} (hL : L.map (·.data.toList) = cut32 s.data.toList) (hM : M.map (·.data.toList) = cut32 s.data.toList) : rdI L = rdS M s := by
  apply Option.ext
  rintro ⟨k, o, t⟩
  exact (rdI_iff hL k o t).trans (rdS_iff hM k o t).symm
theorem index_sp (s : ByteArray) : Lib.indexB s spB = Lib.indexByte s.data.toList 32 := by
  show Lib.index s.data.toList spB.data.toList = _
  exact Lib.index_one s.data.toList 32
theorem cut_miss (l : List UInt8) (h : Lib.indexByte l 32 = -1) : cut32 l = [l] :=
  cut_whole l (fun b hb e => by
    obtain ⟨i, hi, e'⟩ := List.getElem_of_mem hb
    exact Lib.indexByte_none h i (by rw [List.getElem?_eq_getElem hi, e', e]))
theorem cut_hit (l : List UInt8) (i : Nat) (h : Lib.indexByte l 32 = i) : cut32 l = l.take i :: cut32 (l.drop (i + 1)) := by
  obtain ⟨h1, h2⟩ := Lib.indexByte_some h
  obtain ⟨hi, e⟩ := List.getElem?_eq_some_iff.1 h1
  have hl : l = l.take i ++ 32 :: l.drop (i + 1) := by
    rw [← e, ← List.drop_eq_getElem_cons hi, List.take_append_drop]
  conv => lhs; rw [hl]
  refine cut_at _ _ fun b hb e => ?_
  obtain ⟨j, hj, e'⟩ := List.getElem_of_mem hb
  simp only [List.length_take] at hj
  refine h2 j (by omega) ?_
  rw [List.getElem_take] at e'
  rw [List.getElem?_eq_getElem (by omega), e', e]
theorem parts_cut' : ∀ (k : Nat) (s : ByteArray), Lib.countB s spB = k → (Lib.splitB spB 0 k s).map (·.data.toList) = cut32 s.data.toList
  | k, s, hk => by
    rcases Lib.indexB_cases s spB with h | ⟨i, h, hi⟩
    · rw [Lib.splitB_miss _ _ _ _ h, cut_miss _ (by rw [← index_sp]; exact h)]
      rfl
    · have hc := Lib.countB_hit s spB i (by decide) h
      cases k with
      | zero => omega
      | succ k =>
        rw [Lib.splitB_hit _ _ _ _ i h, List.map_cons, parts_cut' k _ (by omega), cut_hit s.data.toList i (by rw [← index_sp]; exact h)]
        have e1 : (s.extract 0 (i + 0)).data.toList = s.data.toList.take i := by rw [Lib.extract_data]; simp
        have e2 : (s.extract (i + spB.size) s.size).data.toList = s.data.toList.drop (i + 1) := by
          rw [Lib.extract_data]
          show List.take _ (List.drop (i + 1) _) = _
          rw [List.take_of_length_le]
          rw [List.length_drop, size_len]
          exact Nat.le_refl _
        rw [e1, e2]
theorem parts_cut (s : ByteArray) : (partsB s).map (·.data.toList) = cut32 s.data.toList := parts_cut' _ s rfl
theorem rd_parts {s : ByteArray} {M : List ByteArray} (hM : M.map (·.data.toList) = cut32 s.data.toList) : rdS M s = rdI (partsB s) := (rd_same (parts_cut s) hM).symm
def dtJ (d : J) : ByteArray := dtB d.s d.d d.g
def goodJ (d : J) : Bool := (dtJ d).size != 0
def rdL (l : List UInt8) : Option J := (rdI (partsB ⟨l.toArray⟩)).map fun (k, o, t) => ⟨k, o, t⟩
def rjGo : Nat → List UInt8 → List J × Nat
  | 0, _ => ([], 0)
  | f + 1, l => if 10 ∈ l then (match rdL (l.takeWhile (· != 10)) with
      | none => ([], 0)
      | some d => (d :: (rjGo f (l.drop ((l.takeWhile (· != 10)).length + 1))).1, (l.takeWhile (· != 10)).length + 1 + (rjGo f (l.drop ((l.takeWhile (· != 10)).length + 1))).2)) else ([], 0)
def rjR (s : ByteArray) : List J × Nat := rjGo 99 s.data.toList
theorem rdL_iff {l : List UInt8} {d : J} : rdL l = some d ↔ l ≠ [] ∧ (dtJ d).data.toList = l := by
  unfold rdL
  rw [Option.map_eq_some_iff]
  have hd : (⟨l.toArray⟩ : ByteArray).data.toList = l := by simp
  have hsz : (⟨l.toArray⟩ : ByteArray).size = l.length := by rw [← size_len, hd]
  constructor
  · rintro ⟨⟨k, o, t⟩, h, rfl⟩
    obtain ⟨h1, h2⟩ := (rdI_iff (parts_cut _) k o t).1 h
    refine ⟨fun e => h1 (by rw [hsz, e]; rfl), ?_⟩
    show (dtB k o t).data.toList = l
    rw [h2, hd]
  · rintro ⟨h1, h2⟩
    refine ⟨(d.s, d.d, d.g), (rdI_iff (parts_cut _) d.s d.d d.g).2 ⟨?_, ?_⟩, rfl⟩
    · rw [hsz]; exact fun e => h1 (List.length_eq_zero_iff.1 e)
    · apply ext_list; rw [hd]; exact h2
theorem tw_app {a l : List UInt8} (h : 10 ∉ a) : (a ++ 10 :: l).takeWhile (· != 10) = a := by
  rw [List.takeWhile_append_of_pos]
  · simp
  · intro x hx
    simp only [bne_iff_ne, ne_eq]
    rintro rfl; exact h hx
theorem rj_line {f : Nat} {d : J} {a l : List UInt8} (hd : rdL a = some d) (h : 10 ∉ a) : rjGo (f + 1) (a ++ 10 :: l) = (d :: (rjGo f l).1, a.length + 1 + (rjGo f l).2) := by
  have hm : 10 ∈ a ++ 10 :: l := by simp
  rw [rjGo, if_pos hm, tw_app h, hd]
  simp only
  rw [show (a ++ 10 :: l).drop (a.length + 1) = l by rw [List.drop_append]; simp]
theorem split10 {l : List UInt8} (h : 10 ∈ l) : ∃ a r, l = a ++ 10 :: r ∧ 10 ∉ a := by
  induction l with
  | nil => cases h
  | cons b l ih =>
    by_cases hb : b = 10
    · subst hb; exact ⟨[], l, rfl, by simp⟩
    · obtain ⟨a, r, e, hn⟩ := ih ((List.mem_cons.1 h).resolve_left fun e => hb e.symm)
      refine ⟨b :: a, r, by rw [e]; rfl, ?_⟩
      simp only [List.mem_cons, not_or]
      exact ⟨fun e => hb e.symm, hn⟩
theorem rj_cases (f : Nat) (l : List UInt8) : rjGo f l = ([], 0) ∨ ∃ f' d a r, f = f' + 1 ∧ l = a ++ 10 :: r ∧ 10 ∉ a ∧ rdL a = some d ∧ rjGo f l = (d :: (rjGo f' r).1, a.length + 1 + (rjGo f' r).2) := by
  cases f with
  | zero => exact .inl rfl
  | succ f =>
    by_cases h : 10 ∈ l
    · obtain ⟨a, r, rfl, hn⟩ := split10 h
      cases hd : rdL a with
      | none =>
        left
        rw [rjGo, if_pos h, tw_app hn, hd]
      | some d => exact .inr ⟨f, d, a, r, rfl, rfl, hn, hd, rj_line hd hn⟩
    · left
      rw [rjGo, if_neg h]
theorem rj_back : ∀ (f : Nat) (l : List UInt8), (∀ d ∈ (rjGo f l).1, goodJ d = true) ∧ ((rjGo f l).1.map fun d => (dtJ d).data.toList ++ [10]).flatten = l.take (rjGo f l).2 := by
  intro f
  induction f with
  | zero => intro l; simp [rjGo]
  | succ f ih =>
    intro l
    rcases rj_cases (f + 1) l with e | ⟨f', d, a, r, hf, rfl, hn, hd, e⟩
    · rw [e]; simp
    · obtain rfl : f = f' := by omega
      obtain ⟨i1, i2⟩ := ih r
      obtain ⟨d1, d2⟩ := rdL_iff.1 hd
      rw [e]
      constructor
      · intro x hx
        rcases List.mem_cons.1 hx with rfl | hx
        · unfold goodJ
          rw [bne_iff_ne, ← size_len, d2]
          exact fun e => d1 (List.length_eq_zero_iff.1 e)
        · exact i1 x hx
      · simp only [List.map_cons, List.flatten_cons, d2, i2]
        rw [show a ++ 10 :: r = (a ++ [10]) ++ r by simp, show a.length + 1 + (rjGo f r).2 = (a ++ [10]).length + (rjGo f r).2 by simp]
        rw [List.take_length_add_append]
theorem rj_good (s : ByteArray) : ∀ d ∈ (rjR s).1, goodJ d = true := (rj_back 99 s.data.toList).1
theorem index10 : ∀ l : List UInt8, Lib.index l [10] = if 10 ∈ l then ((l.takeWhile (· != 10)).length : Int) else -1
  | [] => by simp [Lib.index]
  | b :: l => by
    have ih := index10 l
    by_cases hb : b = 10
    · subst hb; simp [Lib.index, List.isPrefixOf]
    · have h1 : ([10] : List UInt8).isPrefixOf (b :: l) = false := by simp [List.isPrefixOf, Ne.symm hb]
      have h2 : (10 ∈ b :: l) ↔ 10 ∈ l := ⟨fun h => (List.mem_cons.1 h).resolve_left fun e => hb e.symm, fun h => List.mem_cons_of_mem _ h⟩
      have h3 : (b != 10) = true := by simp [hb]
      unfold Lib.index
      rw [h1, ih]
      simp only [h2, List.takeWhile_cons, h3, if_true]
      by_cases hm : 10 ∈ l
      · rw [if_pos hm, if_pos hm]
        have : (((l.takeWhile (· != 10)).length : Int) == -1) = false := by rw [beq_eq_false_iff_ne]; omega
        simp [this]
      · rw [if_neg hm, if_neg hm]; simp
theorem tw_take (l : List UInt8) : l.take (l.takeWhile (· != 10)).length = l.takeWhile (· != 10) := by
  conv => lhs; arg 2; rw [← List.takeWhile_append_dropWhile (p := fun x => x != 10) (l := l)]
  rw [List.take_append_of_le_length (Nat.le_refl _), List.take_length]
theorem cut10 (l : List UInt8) : Lib.cut l [10] = if 10 ∈ l then (l.takeWhile (· != 10), l.drop ((l.takeWhile (· != 10)).length + 1), true) else (l, [], false) := by
  unfold Lib.cut
  rw [index10]
  by_cases h : 10 ∈ l
  · rw [if_pos h, if_pos (by omega), if_pos h, Int.toNat_natCast, tw_take]; rfl
  · rw [if_neg h, if_neg (by omega), if_neg h]
theorem tw_len {l : List UInt8} (h : 10 ∈ l) : (l.takeWhile (· != 10)).length + 1 ≤ l.length := by
  obtain ⟨a, r, rfl, hn⟩ := split10 h
  rw [tw_app hn]; simp
theorem rest_data (s : ByteArray) (n : Nat) : (s.extract n s.size).data.toList = s.data.toList.drop n := by
  rw [ext_data, List.take_of_length_le (by rw [List.length_drop, size_len]; exact Nat.le_refl _)]
theorem rjGo_no {f : Nat} {l : List UInt8} (h : 10 ∉ l) : rjGo f l = ([], 0) := by
  cases f with
  | zero => rfl
  | succ f => rw [rjGo, if_neg h]
theorem rjGo_bad {f : Nat} {l : List UInt8} (h : rdL (l.takeWhile (· != 10)) = none) : rjGo f l = ([], 0) := by
  cases f with
  | zero => rfl
  | succ f =>
    rw [rjGo]
    split
    · rw [h]
    · rfl
theorem rjGo_one {f : Nat} {l : List UInt8} {d : J} (hm : 10 ∈ l) (h : rdL (l.takeWhile (· != 10)) = some d) :
    rjGo (f + 1) l = (d :: (rjGo f (l.drop ((l.takeWhile (· != 10)).length + 1))).1, (l.takeWhile (· != 10)).length + 1 + (rjGo f (l.drop ((l.takeWhile (· != 10)).length + 1))).2) := by
  rw [rjGo, if_pos hm, h]
structure RjSt (s : ByteArray) (D : List J) (n f : Nat) : Prop where
  len : D.length + f = 99
  le : n ≤ s.size
  eq : rjR s = (D ++ (rjGo f (s.data.toList.drop n)).1, n + (rjGo f (s.data.toList.drop n)).2)
theorem RjSt.start (s : ByteArray) : RjSt s [] 0 99 := ⟨rfl, Nat.zero_le _, by simp [rjR]⟩
theorem RjSt.over {s : ByteArray} {D : List J} {n f : Nat} (h : RjSt s D n f) (hz : rjGo f (s.data.toList.drop n) = ([], 0)) : rjR s = (D, n) := by
  rw [h.eq, hz]; simp
theorem RjSt.step {s : ByteArray} {D : List J} {n f : Nat} {d : J} (h : RjSt s D n (f + 1)) (hm : 10 ∈ s.data.toList.drop n) (hd : rdL ((s.data.toList.drop n).takeWhile (· != 10)) = some d) :
    RjSt s (D ++ [d]) (n + (((s.data.toList.drop n).takeWhile (· != 10)).length + 1)) f := by
  refine ⟨?_, ?_, ?_⟩
  · have := h.len; simp; omega
  · have h1 := tw_len hm
    have h2 := h.le
    rw [List.length_drop, size_len] at h1
    omega
  · rw [h.eq, rjGo_one hm hd, List.drop_drop]
    simp [Nat.add_assoc]
theorem rdL_of {l : List UInt8} {B : ByteArray} (h : B.data.toList = l) : rdL l = (rdI (partsB B)).map fun (k, o, t) => ⟨k, o, t⟩ := by
  unfold rdL
  rw [show (⟨l.toArray⟩ : ByteArray) = B from ext_list (by simp [h])]
def lenOf : Value → Nat
  | .slice _ n _ => n
  | _ => 0
set_option maxHeartbeats 1600000 in
theorem readJournal_impl (s : ByteArray) (m : Int) (w : World) (hs : s.size < 4294967281) (hm : w.cell? ⟨1, 0, none⟩ = some (.int .i64 m)) (hna : NamesIs w) :
    Calls Tryz.prog 21 #[.string s] w fun e w' => ∃ v, e = .returned (.tuple #[v, .int .i64 ((rjR s).2 : Int)]) ∧ w'.ownsRow w.heap.size 48 3 v (rjR s).1.length (flatD (rjR s).1) ∧ Below w.heap.size w w' := by
  have h1lt : 1 < w.heap.size := by
    rcases Nat.lt_or_ge 1 w.heap.size with h | h
    · exact h
    · simp [World.cell?, Array.getElem?_eq_none h] at hm
  obtain ⟨j0, hj0, hzj, hj1, hj2⟩ := info_parts info_J
  go_enter Tryz.func21, Tryz.ntmps21
  go_wp2_with fail
  go_loopw [4, 5, 6, 7, 8, 9, 10] (fun o i _ _ _ _ _ wr => ∃ (D : List J) (n f : Nat), RjSt s D n f ∧ i = .int .i64 n ∧ Below w.heap.size w wr ∧ wr.ownsRow w.heap.size 48 3 o D.length (flatD D)) (fun o _ _ _ _ _ _ _ => 99 - lenOf o)
  case atStart => exact ⟨[], 0, 99, .start s, rfl, Below.refl _ _, World.ownsRow_nil _ _ _ _⟩
  case round =>
    obtain ⟨D, n, f, hst, rfl, hb, hown⟩ := hrel
    have HB := hide hb
    have HO := hide hown
    have HST := hide hst
    have hDf := hst.len
    have hns := hst.le
    have hszr := hb.size
    obtain ⟨aow, capw, rfl, -, -⟩ := own_slice hown
    have hmr := hide (show wr.cell? ⟨1, 0, none⟩ = some (.int .i64 m) by rw [hb.cell h1lt]; exact hm)
    have hnr := hide (hna.stays hb)
    clear hown hst hb
    by_cases hlt : D.length < 99
    · obtain ⟨f, rfl⟩ : ∃ g, f = g + 1 := ⟨f - 1, by omega⟩
      have hlI : (D.length : Int) < 99 := by omega
      have hn0 : (0 : Int) ≤ (n : Int) := by omega
      have hnI : (n : Int) ≤ (s.size : Int) := by omega
      have HT := hide (rest_data s n)
      have hTs : (s.extract n s.size).size < 4294967281 := by rw [ByteArray.size_extract]; omega
      have hcut := Tryz.strings_Cut (s.extract n s.size) ⟨#[10]⟩ m wr hTs hmr.out
      rw [show (⟨#[10]⟩ : ByteArray).data.toList = [10] from rfl, HT.out, cut10] at hcut
      by_cases hmem : 10 ∈ s.data.toList.drop n
      · rw [if_pos hmem] at hcut
        obtain ⟨B, hB⟩ : ∃ B : ByteArray, ⟨((s.data.toList.drop n).takeWhile (· != 10)).toArray⟩ = B := ⟨_, rfl⟩
        obtain ⟨C, hC⟩ : ∃ C : ByteArray, ⟨((s.data.toList.drop n).drop (((s.data.toList.drop n).takeWhile (· != 10)).length + 1)).toArray⟩ = C := ⟨_, rfl⟩
        have hBd : B.data.toList = (s.data.toList.drop n).takeWhile (· != 10) := by rw [← hB]
        have hBs : B.size = ((s.data.toList.drop n).takeWhile (· != 10)).length := by rw [← size_len, hBd]
        have hBl : B.size + 1 ≤ s.size - n := by
          have := tw_len hmem
          rw [List.length_drop, size_len] at this
          omega
        have HSTEP := hide (fun d hd => HST.out.step (d := d) hmem hd)
        have HBAD := hide (fun hd => HST.out.over (rjGo_bad hd))
        rw [← hBs] at HSTEP
        simp only [rdL_of hBd] at HSTEP HBAD
        dsimp only at hcut
        rw [hB, hC] at hcut
        clear hB hC hBd hBs hmem
        go_wp2_with fail
        refine hcut.mono ?_
        rintro e w1 ⟨rfl, q, hw⟩
        have hb1 : Below wr.heap.size wr w1 := by rw [hw]; exact below_drewN (Below.refl _ _) _
        have HB1 := hide (Below.step HB.out hb1 (Nat.le_refl _))
        have HO1 := hide (ownsRow_below HO.out hb1 (Nat.le_refl _))
        have hm1 := hide (show w1.cell? ⟨1, 0, none⟩ = some (.int .i64 m) by rw [hb1.cell (by show 1 < wr.heap.size; omega)]; exact hmr.out)
        have hn1 := hide (hnr.out.stays hb1)
        have hz1 := hb1.size
        clear hw hb1 hcut HT hTs
        go_wp2_with fail
        have hrd := readDeed_impl B m w1 (by omega) hm1.out hn1.out
        rcases hr : rdI (partsB B) with _ | ⟨k, o, t⟩
        · rw [hr] at hrd HBAD
          have HR := hide (HBAD.out rfl)
          refine hrd.mono ?_
          rintro e w2 ⟨rfl, hb2⟩
          have HB2 := hide (Below.step HB1.out hb2 (Nat.le_refl _))
          have HO2 := hide (ownsRow_below HO1.out hb2 (Nat.le_refl _))
          have hz2 := HB2.out.size
          clear hb2 hrd HBAD HSTEP hr
          simp only [deedV]
          go_wp2_with fail
          go_ret2
          rw [HR.out]
          exact ⟨_, rfl, HO2.out.alloc _, HB2.out.alloc hz2 _⟩
        · rw [hr] at hrd HSTEP
          have HR := hide (HSTEP.out ⟨k, o, t⟩ rfl)
          refine hrd.mono ?_
          rintro e w2 ⟨rfl, hb2⟩
          have HB2 := hide (Below.step HB1.out hb2 (Nat.le_refl _))
          have HO2 := hide (ownsRow_below HO1.out hb2 (Nat.le_refl _))
          have hz2 := HB2.out.size
          clear hb2 hrd HBAD HSTEP hr
          simp only [deedV]
          go_wp2_with (at_builtin; refine wpList_append_view rfl _ _ 39 rfl w.heap.size 48 j0 _ 3 24 Tryz.underlying39 hj0 hzj hj1 hj2 rfl (by decide) _ _ _ rfl ((HO2.out.alloc _).alloc _) (.slice (some ⟨w2.heap.size + 1, 0, none⟩) 1 1) 1 [.int .i64 k, .int .i64 o, .int .i64 t] rfl ?c0 ?c1 ?c2 ?c3 ?_)
          case c0 => simpa using Source.lit (World.alloc w2 _) [.int .i64 k, .int .i64 o, .int .i64 t] 3 48 1 rfl (fun u hu => by simp at hu; rcases hu with rfl | rfl | rfl <;> rfl) 1
          case c1 => unfold maxLen; omega
          case c2 => omega
          case c3 => simp; omega
          intro v2 w3 hown2 hgrow2 _
          have hB3 := ((HB2.out.alloc hz2 (.cells #[.int .i64 k, .int .i64 o, .int .i64 t] 48)).alloc (by simp; omega) (.cells #[.int .i64 k, .int .i64 o, .int .i64 t] 48)).trans (Below.grow hgrow2 ((HO2.out.alloc _).alloc _) (Nat.le_refl _) (by simp; omega))
          have HB3 := hide hB3
          have HO3 := hide (show w3.ownsRow w.heap.size 48 3 v2 (D ++ [(⟨k, o, t⟩ : J)]).length (flatD (D ++ [⟨k, o, t⟩])) by rw [flatD_append, List.length_append]; exact hown2)
          obtain ⟨ao3, cap3, rfl, -, -⟩ := own_slice hown2
          clear hown2 hgrow2 hB3
          go_wp2_with fail
          go_roundw
          case rel => exact ⟨D ++ [⟨k, o, t⟩], n + (B.size + 1), f, HR.out, by go_num, HB3.out, by simpa using HO3.out⟩
          case measure => simp [lenOf]; omega
      · rw [if_neg hmem] at hcut
        have HR := hide (HST.out.over (rjGo_no hmem))
        obtain ⟨B, hB⟩ : ∃ B : ByteArray, ⟨(s.data.toList.drop n).toArray⟩ = B := ⟨_, rfl⟩
        dsimp only at hcut
        rw [hB] at hcut
        clear hB
        go_wp2_with fail
        refine hcut.mono ?_
        rintro e w1 ⟨rfl, q, hw⟩
        have hb1 : Below wr.heap.size wr w1 := by rw [hw]; exact below_drewN (Below.refl _ _) _
        have HB1 := hide (Below.step HB.out hb1 (Nat.le_refl _))
        have HO1 := hide (ownsRow_below HO.out hb1 (Nat.le_refl _))
        clear hw hb1 hcut HT hTs
        go_wp2_with fail
        go_ret2
        rw [HR.out]
        exact ⟨_, rfl, HO1.out, HB1.out⟩
    · have hlI : ¬ (D.length : Int) < 99 := by omega
      obtain rfl : f = 0 := by omega
      have HR := hide (HST.out.over rfl)
      go_wp2_with fail
      go_ret2
      rw [HR.out]
      exact ⟨_, rfl, HO.out, HB.out⟩
end Go.Proofs.YtmemgbklgcjobaaGreatDoor
