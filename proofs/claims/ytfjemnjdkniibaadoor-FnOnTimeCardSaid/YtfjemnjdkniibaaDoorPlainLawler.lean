/-
  What must be done before: the order made from its end on is the best. No program in sight.
-/
import Derived.Test.YtfjemnjdkniibaaDoorWalkK
import Derived.Test.YtfjemnjdkniibaaDoorPlainTwo
namespace Go.Proofs.YtfjemnjdkniibaaDoor

/-- Each one is behind the one that must be before it. -/
def pOk (p : Int → Int) (os : List Int) : Prop := ∀ A y B, os = A ++ y :: B → p y < 0 ∨ p y ∈ A
def pB (bs : List Int) (a : Int) : Int := bs.getD a.toNat 0
theorem pOk_iff {bs os : List Int} : upTo os.length (bokK bs os) = true ↔ pOk (pB bs) os := by
  rw [upTo_iff]
  constructor
  · rintro h A y B rfl
    have := h A.length (by simp)
    unfold bokK at this
    have e : (A ++ y :: B).getD A.length 0 = y := by simp [List.getD_eq_getElem?_getD]
    rw [e, List.take_left'  rfl] at this
    simp only [Bool.or_eq_true, Bool.not_eq_true', decide_eq_false_iff_not, hasI_iff] at this
    rcases this with h | h
    · exact .inl (by unfold pB; omega)
    · exact .inr h
  · intro h k hk
    have hsp : os = os.take k ++ os[k] :: os.drop (k + 1) := by rw [← List.drop_eq_getElem_cons hk, List.take_append_drop]
    have := h _ _ _ hsp
    unfold bokK
    rw [getD_lt hk]
    simp only [Bool.or_eq_true, Bool.not_eq_true', decide_eq_false_iff_not, hasI_iff]
    rcases this with h | h
    · exact .inl (by unfold pB at h; omega)
    · exact .inr h

theorem free_iff {bs out : List Int} {n : Nat} {k : Nat} : freeTo bs out k n = true ↔ ((k : Int) ∉ out ∧ ∀ i : Nat, i < n → bs.getD i 0 = (k : Int) → (i : Int) ∈ out) := by
  unfold freeTo
  rw [Bool.and_eq_true, Bool.not_eq_true', hasI_false, upTo_iff]
  simp only [Bool.or_eq_true, bne_iff_ne, ne_eq, hasI_iff]
  constructor
  · rintro ⟨h1, h2⟩
    exact ⟨h1, fun i hi e => (h2 i hi).resolve_left fun h => h e⟩
  · rintro ⟨h1, h2⟩
    exact ⟨h1, fun i hi => by
      by_cases e : bs.getD i 0 = (k : Int)
      · exact .inr (h2 i hi e)
      · exact .inl e⟩

/-- What was chosen is due last, of all that may be. -/
theorem sel_best (js : List J) (bs out : List Int) : ∀ k, (selTo js bs out k < 0 → ∀ y : Nat, y < k → freeTo bs out y js.length = false) ∧
    (∀ y : Nat, y < k → freeTo bs out y js.length = true → (jAt js y).d ≤ (jAt js (selTo js bs out k)).d)
  | 0 => ⟨fun _ y h => absurd h (Nat.not_lt_zero y), fun y h => absurd h (Nat.not_lt_zero y)⟩
  | k + 1 => by
    obtain ⟨h1, h2⟩ := sel_best js bs out k
    simp only [selTo]
    split
    · rename_i hc
      simp only [Bool.and_eq_true, Bool.or_eq_true, decide_eq_true_eq] at hc
      refine ⟨fun h => by omega, fun y hy hf => ?_⟩
      by_cases e : y = k
      · subst e; exact Int.le_refl _
      · have hyk : y < k := by omega
        rcases hc.2 with hn | hd
        · rw [h1 hn y hyk] at hf; cases hf
        · exact Int.le_trans (h2 y hyk hf) (by simpa [jAt] using hd)
    · rename_i hc
      simp only [Bool.and_eq_true, Bool.or_eq_true, decide_eq_true_eq, not_and, not_or] at hc
      refine ⟨fun h y hy => ?_, fun y hy hf => ?_⟩
      · by_cases e : y = k
        · subst e
          cases hf : freeTo bs out y js.length with
          | false => rfl
          | true => exact absurd h (hc hf).1
        · exact h1 h y (by omega)
      · by_cases e : y = k
        · subst e
          have h3 := (hc hf).2
          simp only [jAt, Int.toNat_natCast] at h3 ⊢
          omega
        · exact h2 y (by omega) hf

theorem cs_shift {js : List J} (F : Int → Int → Int) (hF : ∀ a t t', t ≤ t' → F a t ≤ F a t') : ∀ l t t', t ≤ t' → maxI (cs js F t l) ≤ maxI (cs js F t' l)
  | [], _, _, _ => by simp [cs, maxI]
  | a :: l, t, t', h => by
    have h1 := cs_shift (js := js) F hF l (t + spn js a) (t' + spn js a) (by omega)
    have h2 := hF a (t + spn js a) (t' + spn js a) (by omega)
    simp only [cs, maxI]
    omega
theorem spns_nn {js : List J} : ∀ l, (∀ a ∈ l, 0 ≤ spn js a) → 0 ≤ spns js l
  | [], _ => by simp [spns]
  | a :: l, h => by
    have := spns_nn l fun b hb => h b (by simp [hb])
    have := h a (by simp)
    simp only [spns]; omega

/-- To the end with the one that is due last. -/
theorem to_end {js : List J} (A1 A2 out : List Int) (x : Int) (t : Int) (hnn : ∀ a ∈ A1 ++ x :: A2, 0 ≤ spn js a) (hy : ∀ B y, A2 = B ++ [y] → due js y ≤ due js x) :
    maxI (cs js (fLate js) t (A1 ++ A2 ++ x :: out)) ≤ maxI (cs js (fLate js) t (A1 ++ x :: A2 ++ out)) := by
  have hx : 0 ≤ spn js x := hnn x (by simp)
  have hsh := cs_shift (js := js) (fLate js) (fun a t t' h => by unfold fLate; omega) A2 (t + spns js A1) (t + spns js A1 + spn js x) (by omega)
  rw [List.append_assoc, List.append_assoc, cs_append, cs_append js _ _ A1, maxI_append, maxI_append, cs_append, maxI_append]
  rw [List.cons_append]
  simp only [cs, maxI]
  rw [cs_append, maxI_append, show t + spns js A1 + spns js A2 + spn js x = t + spns js A1 + spn js x + spns js A2 by omega]
  have hlast : fLate js x (t + spns js A1 + spn js x + spns js A2) ≤ max (fLate js x (t + spns js A1 + spn js x)) (maxI (cs js (fLate js) (t + spns js A1 + spn js x) A2)) := by
    rcases List.eq_nil_or_concat A2 with rfl | ⟨B, y, rfl⟩
    · simp [spns]; omega
    · have hd := hy B y (by simp)
      rw [List.concat_eq_append, cs_append, maxI_append, spns_append]
      simp only [cs, maxI, spns, fLate]
      omega
  omega

theorem move_ok {p : Int → Int} {A1 A2 out : List Int} {x : Int} (h : pOk p (A1 ++ x :: A2 ++ out)) (hx : ∀ z ∈ A2, p z ≠ x) : pOk p (A1 ++ A2 ++ x :: out) := by
  intro A y B e
  rw [List.append_assoc] at e
  rcases List.append_eq_append_iff.1 e with ⟨C, e1, e2⟩ | ⟨C, e1, e2⟩
  · -- A = A1 ++ C
    subst e1
    rcases List.append_eq_append_iff.1 e2 with ⟨D, e3, e4⟩ | ⟨D, e3, e4⟩
    · subst e3
      cases D with
      | nil =>
        simp only [List.nil_append, List.cons.injEq] at e4
        obtain ⟨rfl, rfl⟩ := e4
        rcases h A1 x (A2 ++ out) (by simp) with h | h
        · exact .inl h
        · exact .inr (by simp [h])
      | cons d D =>
        simp only [List.cons_append, List.cons.injEq] at e4
        obtain ⟨rfl, rfl⟩ := e4
        rcases h (A1 ++ x :: A2 ++ D) y B (by simp) with h | h
        · exact .inl h
        · refine .inr ?_
          simp only [List.mem_append, List.mem_cons] at h ⊢
          rcases h with (h | h | h) | h
          · exact .inl h
          · exact .inr (.inr (.inl h))
          · exact .inr (.inl h)
          · exact .inr (.inr (.inr h))
    · cases D with
      | nil =>
        simp only [List.append_nil] at e3
        simp only [List.nil_append, List.cons.injEq] at e4
        obtain ⟨rfl, rfl⟩ := e4
        subst e3
        rcases h A1 y (A2 ++ B) (by simp) with h | h
        · exact .inl h
        · exact .inr (by simp [h])
      | cons d D =>
        simp only [List.cons_append, List.cons.injEq] at e4
        obtain ⟨rfl, rfl⟩ := e4
        subst e3
        rcases h (A1 ++ x :: C) y (D ++ out) (by simp) with h | h
        · exact .inl h
        · refine .inr ?_
          have := hx y (by simp)
          simp only [List.mem_append, List.mem_cons] at h ⊢
          rcases h with h | h | h
          · exact .inl h
          · exact absurd h this
          · exact .inr h
  · subst e1
    cases C with
    | nil =>
      simp only [List.nil_append] at e2
      cases A2 with
      | nil =>
        simp only [List.nil_append, List.cons.injEq] at e2
        obtain ⟨rfl, rfl⟩ := e2
        rcases h (A ++ []) y B (by simp) with h | h
        · exact .inl h
        · exact .inr (by simpa using h)
      | cons z A2 =>
        simp only [List.cons_append, List.cons.injEq] at e2
        obtain ⟨rfl, rfl⟩ := e2
        rcases h (A ++ [x]) y (A2 ++ out) (by simp) with h | h
        · exact .inl h
        · have := hx y (by simp)
          simp only [List.mem_append, List.mem_singleton] at h
          rcases h with h | h
          · exact .inr h
          · exact absurd h this
    | cons z C =>
      simp only [List.cons_append, List.cons.injEq] at e2
      obtain ⟨rfl, rfl⟩ := e2
      exact h A y (C ++ x :: A2 ++ out) (by simp)

/-- Round by round the order of BeforeBest, from its end on, is no worse. -/
theorem bb_from {js : List J} {bs : List Int} (h : bfB js bs = true) {os : List Int} (hp : os.Perm (idx js.length)) (hk : pOk (pB bs) os) : ∀ m, m ≤ js.length →
    ∃ A, (A ++ bbTo js bs m).Perm (idx js.length) ∧ pOk (pB bs) (A ++ bbTo js bs m) ∧ maxI (cs js (fLate js) 0 (A ++ bbTo js bs m)) ≤ maxI (cs js (fLate js) 0 os)
  | 0, _ => ⟨os, by simpa [bbTo] using hp, by simpa [bbTo] using hk, by simp [bbTo]⟩
  | m + 1, hm => by
    obtain ⟨A, a1, a2, a3⟩ := bb_from h hp hk m (by omega)
    have hv := bfB_jsv h
    have hl := bfB_len h
    obtain ⟨x, x1, x2, x3⟩ := sel_ok h (show m < js.length by omega)
    obtain ⟨-, hbest⟩ := sel_best js bs (bbTo js bs m) js.length
    rw [x1] at hbest
    obtain ⟨f1, f2⟩ := free_iff.1 x3
    have hnd : (A ++ bbTo js bs m).Nodup := a1.nodup_iff.2 (idx_nodup _)
    have hmem : ∀ a ∈ A ++ bbTo js bs m, ix js a := fun a ha => idx_mem.1 (a1.mem_iff.1 ha)
    have hxA : (x : Int) ∈ A := by
      have : (x : Int) ∈ A ++ bbTo js bs m := a1.mem_iff.2 (idx_mem.2 ⟨by omega, by omega⟩)
      rcases List.mem_append.1 this with h | h
      · exact h
      · exact absurd h f1
    obtain ⟨A1, A2, rfl⟩ := List.append_of_mem hxA
    have hnd' := List.nodup_append.1 hnd
    have hsucc : ∀ z ∈ A1 ++ (x : Int) :: A2, pB bs z ≠ x := fun z hz e => by
      obtain ⟨i, rfl⟩ := Int.eq_ofNat_of_zero_le (hmem z (List.mem_append_left _ hz)).1
      have hi := (hmem (i : Int) (List.mem_append_left _ hz)).2
      exact hnd'.2.2 (i : Int) hz (i : Int) (f2 i (by omega) e) rfl
    refine ⟨A1 ++ A2, ?_, ?_, ?_⟩
    · simp only [bbTo, x1]
      refine List.Perm.trans ?_ a1
      rw [List.append_assoc, List.append_assoc]
      refine List.Perm.append_left _ ?_
      rw [List.cons_append]
      exact List.perm_middle
    · simp only [bbTo, x1]
      exact move_ok a2 fun z hz => hsucc z (by simp [hz])
    · simp only [bbTo, x1]
      refine Int.le_trans (to_end A1 A2 _ (x : Int) 0 (fun a ha => ?_) fun B y e => ?_) a3
      · have := jvB_s (jv_ix hv (hmem a (List.mem_append_left _ ha))); simp only [spn]; omega
      · subst e
        have hy : y ∈ A1 ++ (x : Int) :: (B ++ [y]) := by simp
        obtain ⟨yn, rfl⟩ := Int.eq_ofNat_of_zero_le (hmem y (List.mem_append_left _ hy)).1
        have hyl := (hmem (yn : Int) (List.mem_append_left _ hy)).2
        refine hbest yn (by omega) (free_iff.2 ⟨fun hm => hnd'.2.2 _ hy _ hm rfl, fun i hi e => ?_⟩)
        have hi' : (i : Int) ∈ A1 ++ (x : Int) :: (B ++ [(yn : Int)]) ++ bbTo js bs m := a1.mem_iff.2 (idx_mem.2 ⟨by omega, by omega⟩)
        rcases List.mem_append.1 hi' with hA | hO
        · exfalso
          have hAe : A1 ++ (x : Int) :: (B ++ [(yn : Int)]) = (A1 ++ (x : Int) :: B) ++ [(yn : Int)] := by simp
          rw [hAe] at hA a2 hnd'
          have hq : pB bs (i : Int) = (yn : Int) := e
          have hn2 := List.nodup_append.1 hnd'.1
          rcases List.mem_append.1 hA with hA | hA
          · obtain ⟨C, D, hC⟩ := List.append_of_mem hA
            rw [hC] at a2 hn2
            rcases a2 C (i : Int) (D ++ [(yn : Int)] ++ bbTo js bs m) (by simp) with h | h
            · rw [hq] at h; omega
            · rw [hq] at h
              exact hn2.2.2 (yn : Int) (by simp [h]) (yn : Int) (by simp) rfl
          · rw [List.mem_singleton] at hA
            rcases a2 (A1 ++ (x : Int) :: B) (yn : Int) (bbTo js bs m) (by simp) with h | h
            · rw [← hA, hq] at h; omega
            · rw [← hA, hq] at h
              exact hn2.2.2 (yn : Int) h (yn : Int) (by simp) rfl
        · exact hO
theorem bb_end {js : List J} {bs : List Int} (h : bfB js bs = true) {os : List Int} (hp : os.Perm (idx js.length)) (hk : pOk (pB bs) os) :
    (bbTo js bs js.length).Perm (idx js.length) ∧ pOk (pB bs) (bbTo js bs js.length) ∧ maxI (cs js (fLate js) 0 (bbTo js bs js.length)) ≤ maxI (cs js (fLate js) 0 os) := by
  obtain ⟨A, a1, a2, a3⟩ := bb_from h hp hk js.length (Nat.le_refl _)
  have hl := a1.length_eq
  rw [idx_len, List.length_append, bbTo_len] at hl
  have : A = [] := List.eq_nil_of_length_eq_zero (by omega)
  subst this
  exact ⟨a1, a2, a3⟩
theorem idx_ok {js : List J} {bs : List Int} (h : bfB js bs = true) : pOk (pB bs) (idx js.length) := by
  have hl := bfB_len h
  have hb : bfAll bs = true := by simp only [bfB, Bool.and_eq_true] at h; exact h.2
  intro A y B e
  have hy : y ∈ idx js.length := by rw [e]; simp
  obtain ⟨h0, h1⟩ := idx_mem.1 hy
  obtain ⟨k, rfl⟩ := Int.eq_ofNat_of_zero_le h0
  have hk : k < bs.length := by omega
  have := upTo_iff.1 hb k hk
  rw [bfK_at hk] at this
  obtain ⟨w1, w2⟩ := wi_iff.1 this
  have hp : pB bs (k : Int) = bs[k] := by simp [pB, hk]
  rw [hp]
  by_cases hn : bs[k] < 0
  · exact .inl hn
  · refine .inr ?_
    have hm : bs[k] ∈ idx js.length := idx_mem.2 ⟨by omega, by omega⟩
    have hs : (idx js.length).Pairwise (· < ·) := by
      rw [idx, List.pairwise_map]
      exact List.pairwise_lt_range.imp fun h => by omega
    rw [e] at hm hs
    rw [List.pairwise_append, List.pairwise_cons] at hs
    rcases List.mem_append.1 hm with h | h
    · exact h
    · rcases List.mem_cons.1 h with h | h
      · omega
      · have := hs.2.1.1 _ h; omega
/-- BeforeBest may be. -/
theorem bb_ok {js : List J} {bs : List Int} (h : bfB js bs = true) : bokR js bs (bbR js bs) = true := by
  obtain ⟨h1, h2, -⟩ := bb_end h (List.Perm.refl _) (idx_ok h)
  rw [bbR, if_pos h]
  simp only [bokR, h, ord_of_perm h1, pOk_iff.2 h2, Bool.and_self]
theorem bok_ok {js : List J} {bs os : List Int} (h : bokR js bs os = true) : okB js os = true := by
  simp only [bokR, Bool.and_eq_true] at h
  simp [okB, bfB_jsv h.1.1, h.1.2]
/-- Lawler's rule. -/
theorem lawler {js : List J} {bs os : List Int} (h : bokR js bs os = true) : worstR js (bbR js bs) ≤ worstR js os := by
  have hb : bfB js bs = true := by simp only [bokR, Bool.and_eq_true] at h; exact h.1.1
  have ho : ordB os js.length = true := by simp only [bokR, Bool.and_eq_true] at h; exact h.1.2
  have hk : upTo os.length (bokK bs os) = true := by simp only [bokR, Bool.and_eq_true] at h; exact h.2
  obtain ⟨-, -, h3⟩ := bb_end hb (ord_perm ho) (pOk_iff.1 hk)
  rw [worst_cs (bok_ok h), worst_cs (bok_ok (bb_ok hb))]
  rw [bbR, if_pos hb]
  exact h3
theorem alone_bf {js : List J} (hv : jsvB js = true) : bfB js (List.replicate js.length (-1)) = true := by
  simp only [bfB, hv, List.length_replicate, decide_true, Bool.and_self, Bool.true_and, bfAll]
  rw [upTo_iff]
  intro k hk
  have e : (List.replicate js.length (-1 : Int)).getD k 0 = -1 := by simp [hk]
  rw [bfK, e, wi_iff]; omega
theorem alone_bok {js : List J} {os : List Int} (h : okB js os = true) : bokR js (List.replicate js.length (-1)) os = true := by
  have ho := ok_ord h
  simp only [bokR, alone_bf (ok_jsv h), ho, Bool.and_self, Bool.true_and]
  rw [pOk_iff]
  intro A y B e
  refine .inl ?_
  have hy := (ord_iff.1 ho).2.2 y (by rw [e]; simp)
  simp only [pB]
  have hlt : y.toNat < js.length := by omega
  have : (List.replicate js.length (-1 : Int)).getD y.toNat 0 = -1 := by simp [hlt]
  omega
theorem alone_due {js : List J} (hv : jsvB js = true) : worstR js (bbR js (List.replicate js.length (-1))) = worstR js (orderR kDue js) :=
  Int.le_antisymm (lawler (alone_bok (order_ok cmpDue hv))) (edd (bok_ok (bb_ok (alone_bf hv))))
end Go.Proofs.YtfjemnjdkniibaaDoor
