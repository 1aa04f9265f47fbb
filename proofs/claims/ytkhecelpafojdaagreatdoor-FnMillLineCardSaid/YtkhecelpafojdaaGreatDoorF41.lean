/-
  Parts of the proofs over mills, of: PlainRD. Conditions: each theorem states its own.
-/
import Derived.Test.YtkhecelpafojdaaGreatDoorF39
set_option linter.unusedSimpArgs false
set_option linter.unusedVariables false
set_option maxRecDepth 10000
set_option maxHeartbeats 64000000
namespace Go.Proofs.YtkhecelpafojdaaGreatDoor
open Go.RowKit
def jl (acc : Int) (l : List UInt8) : Int := l.foldl (fun n b => 10 * n + ((b.toNat : Int) - 48)) acc
def allD (l : List UInt8) : Prop := ∀ b ∈ l, 48 ≤ b.toNat ∧ b.toNat ≤ 57
theorem jb (acc : Int) (b : UInt8) (l : List UInt8) : jl acc (b :: l) = jl (10 * acc + ((b.toNat : Int) - 48)) l := rfl
theorem valG_snoc (acc : Int) (l : List UInt8) (b : UInt8) : jl acc (l ++ [b]) = 10 * jl acc l + ((b.toNat : Int) - 48) := by simp [jl]
theorem valG_ge : ∀ (l : List UInt8) (acc : Int), 0 ≤ acc → allD l → acc ≤ jl acc l
 | [], acc, _, _ => by simp [jl]
 | b :: l, acc, h0, hd => by
  have hb := hd b (by simp);have := valG_ge l (10 * acc + ((b.toNat : Int) - 48)) (by omega) (fun x hx => hd x (by simp [hx]));rw [jb]; omega
theorem rdGo_val : ∀ (l : List UInt8) (acc m : Int), 0 ≤ acc → acc ≤ 9999 → (rdGo acc l = some m ↔ allD l ∧ jl acc l = m ∧ m ≤ 9999)
 | [], acc, m, h0, h9 => by
  simp only [rdGo, Option.some.injEq, jl, List.foldl_nil, allD, List.not_mem_nil, false_implies, implies_true, true_and];constructor
  ·rintro rfl; exact ⟨rfl, h9⟩
  ·rintro ⟨h, _⟩; exact h
 | b :: l, acc, m, h0, h9 => by
  by_cases hb : b.toNat < 48 ∨ 57 < b.toNat
  ·rw [rdGo_none hb]
   constructor
   ·intro h; cases h
   ·rintro ⟨hd, _⟩; have := hd b (by simp); omega
  ·by_cases hg : 9999 < 10 * acc + ((b.toNat : Int) - 48)
   ·rw [rdGo_big hb hg]
    constructor
    ·intro h; cases h
    ·rintro ⟨hd, hv, hm⟩
     have := valG_ge l (10 * acc + ((b.toNat : Int) - 48)) (by omega) (fun x hx => hd x (by simp [hx]));rw [jb] at hv; omega
   ·rw [rdGo_step hb hg, rdGo_val l _ m (by omega) (by omega), jb]
    constructor
    ·rintro ⟨hd, h⟩
     refine ⟨fun x hx => ?_, h⟩;rcases List.mem_cons.1 hx with rfl | hx
     ·omega
     ·exact hd x hx
    ·rintro ⟨hd, h⟩; exact ⟨fun x hx => hd x (by simp [hx]), h⟩
theorem lrGo_val : ∀ (l : List UInt8) (acc m : Int), (lrGo acc l = some m ↔ allD l ∧ jl acc l = m)
 | [], acc, m => by simp [lrGo, jl, allD]
 | b :: l, acc, m => by
  by_cases hb : b.toNat < 48 ∨ 57 < b.toNat
  ·rw [lrGo_none hb]
   constructor
   ·intro h; cases h
   ·rintro ⟨hd, _⟩; have := hd b (by simp); omega
  ·rw [lrGo_step hb, lrGo_val l _ m, jb]
   constructor
   ·rintro ⟨hd, h⟩
    refine ⟨fun x hx => ?_, h⟩;rcases List.mem_cons.1 hx with rfl | hx
    ·omega
    ·exact hd x hx
   ·rintro ⟨hd, h⟩; exact ⟨fun x hx => hd x (by simp [hx]), h⟩
def canon (l : List UInt8) : Prop := l ≠ [] ∧ allD l ∧ ¬ ((l.headD 0).toNat = 48 ∧ 1 < l.length)
theorem gH {d : Nat} (h : d < 10) : (UInt8.ofNat (48 + d)).toNat = 48 + d := by simp; omega
theorem dec_props (u : Nat) : allD (Lib.decDigits u) ∧ Lib.decDigits u ≠ [] ∧ jl 0 (Lib.decDigits u) = u ∧ (u ≠ 0 → ((Lib.decDigits u).headD 0).toNat ≠ 48) := by
 induction u using Nat.strongRecOn with
 | _ u ih =>
  by_cases h : u < 10
  ·rw [Lib.decDigits, dif_pos h]
   refine ⟨fun b hb => ?_, by simp, ?_, fun h0 => ?_⟩
   ·simp only [List.mem_singleton] at hb; subst hb; rw [gH h]; omega
   ·rw [jb, gH h]; simp [jl]; omega
   ·simp only [List.headD_cons]; rw [gH h]; omega
  ·rw [Lib.decDigits, dif_neg h]
   obtain ⟨h1, h2, h3, h4⟩ := ih (u / 10) (by omega);have hm : u % 10 < 10 := Nat.mod_lt _ (by omega);refine ⟨fun b hb => ?_, by simp, ?_, fun h0 => ?_⟩
   ·rcases List.mem_append.1 hb with hb | hb
    ·exact h1 b hb
    ·simp only [List.mem_singleton] at hb; subst hb; rw [gH hm]; omega
   ·rw [valG_snoc, h3, gH hm]; omega
   ·have := h4 (by omega)
    cases hd : Lib.decDigits (u / 10) with
    | nil => exact absurd hd h2
    | cons b l => rw [hd] at this; simpa using this
theorem canon_dec (u : Nat) : canon (Lib.decDigits u) := by
 obtain ⟨h1, h2, h3, h4⟩ := dec_props u;refine ⟨h2, h1, fun ⟨h5, h6⟩ => ?_⟩;by_cases h0 : u = 0
 ·subst h0
  rw [Lib.decDigits, dif_pos (by omega)] at h6;simp at h6
 ·exact h4 h0 h5
theorem snoc_cases (l : List UInt8) : l = [] ∨ ∃ a b, l = a ++ [b] := by
 rcases List.eq_nil_or_concat l with h | ⟨a, b, h⟩
 ·exact .inl h
 ·exact .inr ⟨a, b, by rw [h]; simp⟩
theorem dec_canon : ∀ (n : Nat) (l : List UInt8), l.length = n → canon l → Lib.decDigits (jl 0 l).toNat = l ∧ 0 ≤ jl 0 l
 | 0, l, hn, hc => absurd (List.length_eq_zero_iff.1 hn) hc.1
 | n + 1, l, hn, ⟨h1, h2, h3⟩ => by
  rcases snoc_cases l with h | ⟨a, b, rfl⟩
  ·exact absurd h h1
  have hb := h2 b (by simp);rw [valG_snoc];cases a with
  | nil =>
   simp only [jl, List.foldl_nil, List.nil_append];have e : (10 * 0 + ((b.toNat : Int) - 48)).toNat = b.toNat - 48 := by omega
   rw [e, Lib.decDigits, dif_pos (by omega)];refine ⟨?_, by omega⟩;congr 1;apply UInt8.toNat_inj.1;rw [gH (by omega)]; omega
  | cons c a =>
   have hca : canon (c :: a) := by
    refine ⟨by simp, fun x hx => h2 x (List.mem_append_left _ hx), fun ⟨h5, h6⟩ => h3 ⟨by simpa using h5, by simp at h6 ⊢⟩⟩
   have hc48 : c.toNat ≠ 48 := fun e => h3 ⟨by simpa using e, by simp⟩;have hc2 := h2 c (by simp);have hpos : 1 ≤ jl 0 (c :: a) := by
    rw [jb];have := valG_ge a (10 * 0 + ((c.toNat : Int) - 48)) (by omega) (fun x hx => h2 x (by simp [hx]));omega
   obtain ⟨i1, i2⟩ := dec_canon n (c :: a) (by simpa using hn) hca;generalize jl 0 (c :: a) = v at *;refine ⟨?_, by omega⟩;have e : (10 * v + ((b.toNat : Int) - 48)).toNat = 10 * v.toNat + (b.toNat - 48) := by omega
   rw [e, Lib.decDigits, dif_neg (by omega), show (10 * v.toNat + (b.toNat - 48)) / 10 = v.toNat by omega, i1, show (10 * v.toNat + (b.toNat - 48)) % 10 = b.toNat - 48 by omega];congr 2;apply UInt8.toNat_inj.1;rw [gH (by omega)]; omega
theorem dec_len (u : Nat) : (Lib.decDigits u).length ≤ 4 ↔ u ≤ 9999 := by
 rw [Lib.decDigits_length];by_cases h1 : u < 10
 ·rw [Lib.nDigits_small h1]; omega
 rw [Lib.nDigits_big h1];by_cases h2 : u / 10 < 10
 ·rw [Lib.nDigits_small h2]; omega
 rw [Lib.nDigits_big h2];by_cases h3 : u / 10 / 10 < 10
 ·rw [Lib.nDigits_small h3]; omega
 rw [Lib.nDigits_big h3];by_cases h4 : u / 10 / 10 / 10 < 10
 ·rw [Lib.nDigits_small h4]; omega
 rw [Lib.nDigits_big h4];have : 1 ≤ Lib.nDigits (u / 10 / 10 / 10 / 10) := by
  unfold Lib.nDigits; split <;> omega
 omega
theorem numB_data (n : Int) (h : 0 ≤ n) : (aW n).data.toList = Lib.decDigits n.toNat := by
 obtain ⟨u, rfl⟩ : ∃ u : Nat, n = u := ⟨n.toNat, by omega⟩;rw [aW, Lib.itoa_nonneg];simp
theorem ext_list {a b : ByteArray} (h : a.data.toList = b.data.toList) : a = b := ByteArray.ext (Array.toList_inj.1 h)
theorem canon_iff (p : ByteArray) : canon p.data.toList ↔ (p.size ≠ 0 ∧ allD p.data.toList ∧ ¬ ((p.data.toList.headD 0).toNat = 48 ∧ 1 < p.size)) := by
 unfold canon;rw [bD];have : p.data.toList ≠ [] ↔ p.size ≠ 0 := by
  rw [← bD];cases p.data.toList <;> simp
 rw [this]
theorem rdNum_val (p : ByteArray) (n : Int) : rdNum p = some n ↔ canon p.data.toList ∧ jl 0 p.data.toList = n ∧ n ≤ 9999 := by
 rw [canon_iff];unfold rdNum;by_cases h0 : p.size = 0
 ·rw [if_pos h0]; simp [h0]
 rw [if_neg h0];by_cases h1 : (p.data.toList.headD 0).toNat = 48 ∧ 1 < p.size
 ·rw [if_pos h1]
  constructor
  ·intro h; cases h
  ·rintro ⟨⟨_, _, h⟩, _⟩; exact absurd h1 h
 rw [if_neg h1, rdGo_val _ _ _ (by omega) (by omega)];constructor
 ·rintro ⟨a, b⟩; exact ⟨⟨h0, a, h1⟩, b⟩
 ·rintro ⟨⟨_, a, _⟩, b⟩; exact ⟨a, b⟩
theorem iB (p : ByteArray) (n : Int) : rdNum p = some n ↔ 0 ≤ n ∧ n ≤ 9999 ∧ aW n = p := by
 rw [rdNum_val];constructor
 ·rintro ⟨hc, rfl, h9⟩
  obtain ⟨h1, h2⟩ := dec_canon _ _ rfl hc;exact ⟨h2, h9, ext_list (by rw [numB_data _ h2, h1])⟩
 ·rintro ⟨h0, h9, rfl⟩
  rw [numB_data _ h0];refine ⟨canon_dec _, ?_, h9⟩;rw [(dec_props _).2.2.1]; omega
theorem lrNum_eq (p : ByteArray) : fF p = (rdNum p).getD (-1) := by
 by_cases hc : canon p.data.toList
 ·obtain ⟨h1, h2⟩ := dec_canon _ _ rfl hc
  have hc' := (canon_iff p).1 hc;have hl : p.size ≤ 4 ↔ jl 0 p.data.toList ≤ 9999 := by
   have := dec_len (jl 0 p.data.toList).toNat;rw [h1, bD] at this;rw [this]; omega
  by_cases h4 : p.size ≤ 4
  ·have hr : rdNum p = some (jl 0 p.data.toList) := (rdNum_val p _).2 ⟨hc, rfl, hl.1 h4⟩
   have hg : lrGo 0 p.data.toList = some (jl 0 p.data.toList) := (lrGo_val _ _ _).2 ⟨hc'.2.1, rfl⟩;rw [hr, fF, if_neg (by omega), if_neg hc'.2.2, hg]
  ·have hr : rdNum p = none := by
    cases e : rdNum p with
    | none => rfl
    | some m =>
     obtain ⟨_, h5, h6⟩ := (rdNum_val p m).1 e;exact absurd (hl.2 (by omega)) h4
   rw [hr, fF, if_pos (.inr (by omega))]; rfl
 ·have hr : rdNum p = none := by
   cases e : rdNum p with
   | none => rfl
   | some m => exact absurd ((rdNum_val p m).1 e).1 hc
  rw [hr, fF];by_cases h1 : p.size < 1 ∨ 4 < p.size
  ·rw [if_pos h1]; rfl
  rw [if_neg h1];by_cases h2 : (p.data.toList.headD 0).toNat = 48 ∧ 1 < p.size
  ·rw [if_pos h2]; rfl
  rw [if_neg h2];cases e : lrGo 0 p.data.toList with
  | none => rfl
  | some m => exact absurd ((canon_iff p).2 ⟨by omega, ((lrGo_val _ _ _).1 e).1, h2⟩) hc
theorem cut_at : ∀ (a l : List UInt8), (∀ b ∈ a, b ≠ 32) → bn (a ++ 32 :: l) = a :: bn l
 | [], l, _ => by rw [List.nil_append, bn, if_pos rfl]
 | b :: a, l, h => by
  rw [List.cons_append, bn, if_neg (h b (by simp)), cut_at a l (fun x hx => h x (by simp [hx]))]; rfl
theorem cut_whole : ∀ (a : List UInt8), (∀ b ∈ a, b ≠ 32) → bn a = [a]
 | [], _ => rfl
 | b :: a, h => by rw [bn, if_neg (h b (by simp)), cut_whole a (fun x hx => h x (by simp [hx]))]; rfl
theorem cut_join1 : ∀ (l p : List UInt8), bn l = [p] → l = p
 | [], p, h => by simp [bn] at h; exact h.symm
 | b :: l, p, h => by
  rw [bn] at h;split at h
  ·have := jk l
   simp only [List.cons.injEq] at h;exact absurd h.2 this
  ·cases hc : bn l with
   | nil => exact absurd hc (jk l)
   | cons q qs =>
    rw [hc] at h;simp only [glue, List.cons.injEq] at h;obtain ⟨h1, rfl⟩ := h;rw [cut_join1 l q hc, ← h1]; rfl
theorem cut_joinc : ∀ (l p : List UInt8) (r : List (List UInt8)), bn l = p :: r → r ≠ [] → ∃ l', l = p ++ 32 :: l' ∧ bn l' = r
 | [], p, r, h, hr => by simp [bn] at h; exact absurd h.2 hr
 | b :: l, p, r, h, hr => by
  rw [bn] at h;split at h
  ·rename_i hb
   simp only [List.cons.injEq] at h;obtain ⟨rfl, h⟩ := h;exact ⟨l, by rw [hb]; rfl, h⟩
  ·cases hc : bn l with
   | nil => exact absurd hc (jk l)
   | cons q qs =>
    rw [hc] at h;simp only [glue, List.cons.injEq] at h;obtain ⟨h1, rfl⟩ := h;obtain ⟨l', e1, e2⟩ := cut_joinc l q qs hc hr;exact ⟨l', by rw [e1, ← h1]; rfl, e2⟩
theorem kind_five {k : Int} (h : 0 ≤ k ∧ k ≤ 4) : k = 0 ∨ k = 1 ∨ k = 2 ∨ k = 3 ∨ k = 4 := by omega
theorem name_no32 {k : Int} (h : 0 ≤ k ∧ k ≤ 4) : ∀ b ∈ (ax k).data.toList, b ≠ 32 := by
 rcases kind_five h with rfl | rfl | rfl | rfl | rfl <;> decide
theorem num_no32 {n : Int} (h : 0 ≤ n) : ∀ b ∈ (aW n).data.toList, b ≠ 32 := by
 intro b hb e;rw [numB_data n h] at hb;have := (dec_props n.toNat).1 b hb;rw [e] at this;exact absurd this.1 (by decide)
theorem fJ {k : Int} (h : 0 ≤ k ∧ k ≤ 4) : dw (ax k) = k := by
 rcases kind_five h with rfl | rfl | rfl | rfl | rfl <;> decide
theorem kind_back {a : ByteArray} (h : 0 ≤ dw a) : a = ax (dw a) := by
 by_cases h0 : a = ax 0
 ·rw [h0, fJ (by omega)]
 by_cases h1 : a = ax 1
 ·rw [h1, fJ (by omega)]
 by_cases h2 : a = ax 2
 ·rw [h2, fJ (by omega)]
 by_cases h3 : a = ax 3
 ·rw [h3, fJ (by omega)]
 by_cases h4 : a = ax 4
 ·rw [h4, fJ (by omega)]
 rw [dw, if_neg h0, if_neg h1, if_neg h2, if_neg h3, if_neg h4] at h;omega
theorem dt_one {k o : Int} (hk : wi k 0 4 = true) (ho : wi o 0 9999 = true) (h2 : jw k = false) : (dtB k o 0).data.toList = (ax k).data.toList ++ 32 :: (aW o).data.toList := by
 have e : dtB k o 0 = (ax k ++ spB) ++ aW o := by
  rw [dtB, hk, ho, h2]; rfl
 rw [e];simp [spB]
theorem dt_two {k o t : Int} (hk : wi k 0 4 = true) (ho : wi o 0 9999 = true) (ht : wi t 0 9999 = true) (h2 : jw k = true) :
 (dtB k o t).data.toList = (ax k).data.toList ++ 32 :: ((aW o).data.toList ++ 32 :: (aW t).data.toList) := by
 have e : dtB k o t = ((ax k ++ spB) ++ aW o) ++ spB ++ aW t := by
  rw [dtB, hk, ho, ht, h2]; rfl
 rw [e];simp [spB]
theorem iw {k o t : Int} {s : ByteArray} (hs : s.size ≠ 0) (h : dtB k o t = s) : wi k 0 4 = true ∧ wi o 0 9999 = true ∧ wi t 0 9999 = true ∧ (jw k = true ∨ t = 0) := by
 rcases h1 : (wi k 0 4 && (wi o 0 9999 && (wi t 0 9999 && (jw k || t == 0))))
 ·exfalso
  apply hs;rw [← h, dtB, h1];rfl
 ·simpa using h1
theorem list_of_data {L : List ByteArray} {M : List ByteArray} (h : L.map (·.data.toList) = M.map (·.data.toList)) : L = M := by
 induction L generalizing M with
 | nil => cases M <;> simp_all
 | cons a L ih =>
  cases M with
  | nil => simp at h
  | cons b M =>
   simp only [List.map_cons, List.cons.injEq] at h;rw [ext_list h.1, ih h.2]
theorem good_list {k o t : Int} {s : ByteArray} {L : List ByteArray} (hL : L.map (·.data.toList) = bn s.data.toList) (hs : s.size ≠ 0) (h : dtB k o t = s) :
    L = if jw k then [ax k, aW o, aW t] else [ax k, aW o] := by
  obtain ⟨h1, h2, h3, h4⟩ := iw hs h;have hk := aN.1 h1;have ho := aN.1 h2;have ht := aN.1 h3;apply list_of_data;rw [hL, ← h];rcases h5 : jw k
  · obtain rfl : t = 0 := by rcases h4 with h4 | h4; · rw [h5] at h4; cases h4
                             · exact h4
    rw [dt_one h1 h2 h5, cut_at _ _ (name_no32 hk), cut_whole _ (num_no32 ho.1)];rfl
  · rw [dt_two h1 h2 h3 h5, cut_at _ _ (name_no32 hk), cut_at _ _ (num_no32 ho.1), cut_whole _ (num_no32 ht.1)]
    rfl
theorem rdS_iff {s : ByteArray} {L : List ByteArray} (hL : L.map (·.data.toList) = bn s.data.toList) (k o t : Int) : rdS L s = some (k, o, t) ↔ s.size ≠ 0 ∧ dtB k o t = s := by
  constructor
  · intro h
    obtain ⟨K, hK⟩ : ∃ K, dw (L.getD 0 ⟨#[]⟩) = K := ⟨_, rfl⟩;obtain ⟨O, hO⟩ : ∃ O, (if 1 < L.length then fF (L.getD 1 ⟨#[]⟩) else 0) = O := ⟨_, rfl⟩;obtain ⟨T, hT⟩ : ∃ T, (if 2 < L.length then fF (L.getD 2 ⟨#[]⟩) else 0) = T := ⟨_, rfl⟩;have e : rdS L s = if s.size = 0 ∨ dtB K O T ≠ s then none else some (K, O, T) := by rw [← hK, ← hO, ← hT]; rfl
    rw [e] at h;by_cases hn : s.size = 0 ∨ dtB K O T ≠ s
    · rw [if_pos hn] at h; cases h
    · rw [if_neg hn] at h
      simp only [Option.some.injEq, Prod.mk.injEq] at h;obtain ⟨rfl, rfl, rfl⟩ := h;exact ⟨fun e => hn (.inl e), Classical.byContradiction fun e => hn (.inr e)⟩
  · rintro ⟨hs, h⟩
    have hl := good_list hL hs h;obtain ⟨h1, h2, h3, h4⟩ := iw hs h;have hk := aN.1 h1;have ho := aN.1 h2;have ht := aN.1 h3;have no : fF (aW o) = o := by rw [lrNum_eq, (iB _ o).2 ⟨ho.1, ho.2, rfl⟩]; rfl
    have nt : fF (aW t) = t := by rw [lrNum_eq, (iB _ t).2 ⟨ht.1, ht.2, rfl⟩]; rfl
    rcases h5 : jw k
    · obtain rfl : t = 0 := by rcases h4 with h4 | h4; · rw [h5] at h4; cases h4
                               · exact h4
      rw [h5] at hl;simp only [Bool.false_eq_true, if_false] at hl;subst hl;unfold rdS;simp only [List.getD_cons_zero, List.getD_cons_succ, List.length_cons, List.length_nil, fJ hk, no];rw [if_neg]
      · rfl
      · rintro (e | e)
        · exact hs e
        · exact e h
    · rw [h5] at hl
      simp only [if_true] at hl;subst hl;unfold rdS;simp only [List.getD_cons_zero, List.getD_cons_succ, List.length_cons, List.length_nil, fJ hk, no, nt];rw [if_neg]
      · rfl
      · rintro (e | e)
        · exact hs e
        · exact e h
theorem rdI_iff {s : ByteArray} {L : List ByteArray} (hL : L.map (·.data.toList) = bn s.data.toList) (k o t : Int) : rdI L = some (k, o, t) ↔ s.size ≠ 0 ∧ dtB k o t = s := by
  constructor
  · intro h
    obtain ⟨K, hK⟩ : ∃ K, dw (L.getD 0 ⟨#[]⟩) = K := ⟨_, rfl⟩;have hKr := kindB_range (L.getD 0 ⟨#[]⟩);have hb := @kind_back (L.getD 0 ⟨#[]⟩);rw [hK] at hKr hb;unfold rdI at h;simp only [hK] at h;by_cases hn : K < 0
    · rw [if_pos hn] at h; cases h
    rw [if_neg hn] at h;have hb := hb (by omega);have hk : wi K 0 4 = true := aN.2 ⟨by omega, by omega⟩;rcases h5 : jw K
    · rw [h5] at h
      simp only [Bool.false_eq_true, if_false] at h;by_cases hl : L.length = 2
      · rw [if_neg (by omega)] at h
        match L, hl, hL, hb, h with
        | [x0, x1], _, hL, hb, h =>
          simp only [List.getD_cons_zero, List.getD_cons_succ] at hb h;cases e1 : rdNum x1 with
          | none => rw [e1] at h; cases h
          | some n =>
            rw [e1] at h;simp only [Option.some.injEq, Prod.mk.injEq] at h;obtain ⟨rfl, rfl, rfl⟩ := h;obtain ⟨n0, n9, hx1⟩ := (iB _ _).1 e1;obtain ⟨l', e2, e3⟩ := cut_joinc s.data.toList x0.data.toList [x1.data.toList] (by rw [← hL]; rfl) (by simp);have e4 := cut_join1 _ _ e3;have hd : dtB K n 0 = s := ext_list (by rw [dt_one hk (aN.2 ⟨n0, n9⟩) h5, e2, e4, hb, hx1]);refine ⟨fun hz => ?_, hd⟩;rw [← bD, e2] at hz;simp at hz
      · rw [if_pos hl] at h; cases h
    · rw [h5] at h
      simp only [if_true] at h;by_cases hl : L.length = 3
      · rw [if_neg (by omega)] at h
        match L, hl, hL, hb, h with
        | [x0, x1, x2], _, hL, hb, h =>
          simp only [List.getD_cons_zero, List.getD_cons_succ] at hb h;cases e1 : rdNum x1 with
          | none => rw [e1] at h; cases h
          | some n =>
            rw [e1] at h;cases e6 : rdNum x2 with
            | none => rw [e6] at h; cases h
            | some n2 =>
              rw [e6] at h;simp only [Option.some.injEq, Prod.mk.injEq] at h;obtain ⟨rfl, rfl, rfl⟩ := h;obtain ⟨n0, n9, hx1⟩ := (iB _ _).1 e1;obtain ⟨m0, m9, hx2⟩ := (iB _ _).1 e6;obtain ⟨l', e2, e3⟩ := cut_joinc s.data.toList x0.data.toList [x1.data.toList, x2.data.toList] (by rw [← hL]; rfl) (by simp);obtain ⟨l'', e7, e8⟩ := cut_joinc l' x1.data.toList [x2.data.toList] e3 (by simp);have e4 := cut_join1 _ _ e8;have hd : dtB K n n2 = s := ext_list (by rw [dt_two hk (aN.2 ⟨n0, n9⟩) (aN.2 ⟨m0, m9⟩) h5, e2, e7, e4, hb, hx1, hx2]);refine ⟨fun hz => ?_, hd⟩;rw [← bD, e2] at hz;simp at hz
      · rw [if_pos hl] at h; cases h
  · rintro ⟨hs, h⟩
    have hl := good_list hL hs h;obtain ⟨h1, h2, h3, h4⟩ := iw hs h;have hk := aN.1 h1;have ho := aN.1 h2;have ht := aN.1 h3;have no : rdNum (aW o) = some o := (iB _ o).2 ⟨ho.1, ho.2, rfl⟩;have nt : rdNum (aW t) = some t := (iB _ t).2 ⟨ht.1, ht.2, rfl⟩;rcases h5 : jw k
    · obtain rfl : t = 0 := by rcases h4 with h4 | h4; · rw [h5] at h4; cases h4
                               · exact h4
      rw [h5] at hl;simp only [Bool.false_eq_true, if_false] at hl;subst hl;unfold rdI;simp only [List.getD_cons_zero, List.getD_cons_succ, List.length_cons, List.length_nil, fJ hk, no, h5];rw [if_neg (by omega)];rfl
    · rw [h5] at hl
      simp only [if_true] at hl;subst hl;unfold rdI;simp only [List.getD_cons_zero, List.getD_cons_succ, List.length_cons, List.length_nil, fJ hk, no, nt, h5];rw [if_neg (by omega)];rfl
theorem rd_same {s : ByteArray} {L M : List ByteArray} (hL : L.map (·.data.toList) = bn s.data.toList) (hM : M.map (·.data.toList) = bn s.data.toList) : rdI L = rdS M s := by
 apply Option.ext;rintro ⟨k, o, t⟩;exact (rdI_iff hL k o t).trans (rdS_iff hM k o t).symm
theorem index_sp (s : ByteArray) : Lib.indexB s spB = Lib.indexByte s.data.toList 32 := by
 show Lib.index s.data.toList spB.data.toList = _
 exact Lib.index_one s.data.toList 32
theorem cut_miss (l : List UInt8) (h : Lib.indexByte l 32 = -1) : bn l = [l] :=
 cut_whole l (fun b hb e => by
  obtain ⟨i, hi, e'⟩ := List.getElem_of_mem hb;exact Lib.indexByte_none h i (by rw [List.getElem?_eq_getElem hi, e', e]))
theorem cut_hit (l : List UInt8) (i : Nat) (h : Lib.indexByte l 32 = i) : bn l = l.take i :: bn (l.drop (i + 1)) := by
 obtain ⟨h1, h2⟩ := Lib.indexByte_some h;obtain ⟨hi, e⟩ := List.getElem?_eq_some_iff.1 h1;have hl : l = l.take i ++ 32 :: l.drop (i + 1) := by
  rw [← e, ← List.drop_eq_getElem_cons hi, List.take_append_drop]
 conv => lhs; rw [hl]
 refine cut_at _ _ fun b hb e => ?_;obtain ⟨j, hj, e'⟩ := List.getElem_of_mem hb;simp only [List.length_take] at hj;refine h2 j (by omega) ?_;rw [List.getElem_take] at e';rw [List.getElem?_eq_getElem (by omega), e', e]
theorem parts_cut' : ∀ (k : Nat) (s : ByteArray), Lib.countB s spB = k → (Lib.splitB spB 0 k s).map (·.data.toList) = bn s.data.toList
 | k, s, hk => by
  rcases Lib.indexB_cases s spB with h | ⟨i, h, hi⟩
  ·rw [Lib.splitB_miss _ _ _ _ h, cut_miss _ (by rw [← index_sp]; exact h)]
   rfl
  ·have hc := Lib.countB_hit s spB i (by decide) h
   cases k with
   | zero => omega
   | succ k =>
    rw [Lib.splitB_hit _ _ _ _ i h, List.map_cons, parts_cut' k _ (by omega), cut_hit s.data.toList i (by rw [← index_sp]; exact h)];have e1 : (s.extract 0 (i + 0)).data.toList = s.data.toList.take i := by rw [Lib.extract_data]; simp
    have e2 : (s.extract (i + spB.size) s.size).data.toList = s.data.toList.drop (i + 1) := by
     rw [Lib.extract_data];show List.take _ (List.drop (i + 1) _) = _
     rw [List.take_of_length_le];rw [List.length_drop, bD];exact Nat.le_refl _
    rw [e1, e2]
theorem ja (s : ByteArray) : (dD s).map (·.data.toList) = bn s.data.toList := parts_cut' _ s rfl
theorem rd_parts {s : ByteArray} {M : List ByteArray} (hM : M.map (·.data.toList) = bn s.data.toList) : rdS M s = rdI (dD s) := (rd_same (ja s) hM).symm
end Go.Proofs.YtkhecelpafojdaaGreatDoor
