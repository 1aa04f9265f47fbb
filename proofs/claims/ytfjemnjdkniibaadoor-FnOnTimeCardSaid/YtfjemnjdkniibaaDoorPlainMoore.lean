/-
  What is kept is the most that can be on time. No program in sight.
-/
import Derived.Test.YtfjemnjdkniibaaDoorPlainLawler
namespace Go.Proofs.YtfjemnjdkniibaaDoor

/-- Those of a list can all be on time. -/
def fz (js : List J) (l : List Int) : Prop := ∀ a ∈ l, sd js (fun b => decide (due js b ≤ due js a)) l ≤ due js a
theorem fz_perm {js : List J} {l m : List Int} (h : l.Perm m) (hf : fz js l) : fz js m := fun a ha => by
  rw [← sd_perm js _ h]; exact hf a (h.mem_iff.2 ha)
theorem sd_mono (js : List J) {c c' : Int → Bool} : ∀ l, (∀ a ∈ l, 0 ≤ spn js a) → (∀ a ∈ l, c a = true → c' a = true) → sd js c l ≤ sd js c' l
  | [], _, _ => Int.le_refl _
  | a :: l, h, k => by
    have ih := sd_mono js l (fun b hb => h b (by simp [hb])) fun b hb => k b (by simp [hb])
    have ha := h a (by simp)
    have hk := k a (by simp)
    simp only [sd]
    cases h1 : c a with
    | true => rw [hk h1]; simp; omega
    | false => simp only [Bool.false_eq_true, if_false]; split <;> omega
theorem sd_all (js : List J) {c : Int → Bool} : ∀ l, (∀ a ∈ l, c a = true) → sd js c l = spns js l
  | [], _ => rfl
  | a :: l, h => by simp only [sd, spns, h a (by simp), sd_all js l fun b hb => h b (by simp [hb])]; simp
theorem sd_sub {js : List J} {c : Int → Bool} {l m : List Int} (hs : l.Sublist m) (h : ∀ a ∈ m, 0 ≤ spn js a) : sd js c l ≤ sd js c m := by
  induction hs with
  | slnil => exact Int.le_refl _
  | cons a _ ih =>
    have := ih fun b hb => h b (by simp [hb])
    have := h a (by simp)
    simp only [sd]; split <;> omega
  | cons_cons a _ ih =>
    have := ih fun b hb => h b (by simp [hb])
    simp only [sd]; omega
theorem fz_sub {js : List J} {l m : List Int} (hs : l.Sublist m) (h : ∀ a ∈ m, 0 ≤ spn js a) (hf : fz js m) : fz js l := fun a ha =>
  Int.le_trans (sd_sub hs h) (hf a (hs.subset ha))

/-- The sum and the number over those that b takes. -/
theorem spns_sd (js : List J) (b : Int → Bool) : ∀ l, spns js (l.filter b) = sd js b l
  | [] => rfl
  | a :: l => by
    have := spns_sd js b l
    simp only [List.filter_cons, sd]
    split
    · simp only [spns]; omega
    · omega
theorem sd_out {js : List J} {c c' : Int → Bool} {x : Int} : ∀ {l : List Int}, l.Nodup → x ∈ l → (∀ a ∈ l, a ≠ x → c a = c' a) → c x = true → c' x = false → sd js c l = sd js c' l + spn js x
  | a :: l, hn, hx, hc, h1, h2 => by
    rw [List.nodup_cons] at hn
    simp only [sd]
    by_cases e : a = x
    · subst e
      rw [h1, h2, sd_congr js l fun b hb => hc b (by simp [hb]) fun e => hn.1 (e ▸ hb)]; simp; omega
    · rw [hc a (by simp) e, sd_out hn.2 ((List.mem_cons.1 hx).resolve_left fun h => e h.symm) (fun b hb => hc b (by simp [hb])) h1 h2]; omega
theorem cnt_out {c c' : Int → Bool} {x : Int} : ∀ {l : List Int}, l.Nodup → x ∈ l → (∀ a ∈ l, a ≠ x → c a = c' a) → c x = true → c' x = false → l.countP c = l.countP c' + 1
  | a :: l, hn, hx, hc, h1, h2 => by
    rw [List.nodup_cons] at hn
    simp only [List.countP_cons]
    by_cases e : a = x
    · subst e
      rw [h1, h2, List.countP_congr fun b hb => by rw [hc b (by simp [hb]) fun e => hn.1 (e ▸ hb)]]; simp
    · rw [hc a (by simp) e, cnt_out hn.2 ((List.mem_cons.1 hx).resolve_left fun h => e h.symm) (fun b hb => hc b (by simp [hb])) h1 h2]; omega

theorem erase_filter {l : List Int} (hn : l.Nodup) {i : Nat} (hi : i < l.length) : l.eraseIdx i = l.filter fun a => decide (a ≠ l[i]) := by
  induction l generalizing i with
  | nil => simp at hi
  | cons a l ih =>
    rw [List.nodup_cons] at hn
    cases i with
    | zero =>
      simp only [List.eraseIdx_cons_zero, List.getElem_cons_zero, List.filter_cons, ne_eq, not_true, decide_false, Bool.false_eq_true, if_false]
      refine (List.filter_eq_self.2 fun b hb => ?_).symm
      simp; exact fun e => hn.1 (e ▸ hb)
    | succ i =>
      have hi' : i < l.length := by simpa using hi
      have : a ≠ l[i] := fun e => hn.1 (e ▸ List.getElem_mem hi')
      simp only [List.eraseIdx_cons_succ, List.getElem_cons_succ, List.filter_cons]
      rw [ih hn.2 hi']; simp [this]

/-- What is kept may be, and is the most, at each place of the order by Due. -/
theorem mh {js : List J} (hs : ∀ j ∈ js, jvB j = true) (l : List Int) : (∀ a ∈ l, ix js a) → l.Nodup → l.Pairwise (fun a b => due js a ≤ due js b) →
    fz js (ot js l).1 ∧ ∀ c : Int → Bool, fz js (l.filter c) → ∃ b : Int → Bool, (ot js l).1.countP b = l.countP c ∧ sd js b (ot js l).1 ≤ sd js c l := by
  refine snoc_ind (P := fun l => (∀ a ∈ l, ix js a) → l.Nodup → l.Pairwise (fun a b => due js a ≤ due js b) →
    fz js (ot js l).1 ∧ ∀ c : Int → Bool, fz js (l.filter c) → ∃ b : Int → Bool, (ot js l).1.countP b = l.countP c ∧ sd js b (ot js l).1 ≤ sd js c l) ?_ ?_ l
  · intro _ _ _
    exact ⟨fun a ha => by simp [ot] at ha, fun c _ => ⟨c, by simp [ot], by simp [ot]⟩⟩
  · intro l a ih h1 h2 h3
    have hl : ∀ x ∈ l, ix js x := fun x hx => h1 x (by simp [hx])
    have ha : ix js a := h1 a (by simp)
    have h2' := List.nodup_append.1 h2
    have h3' := List.pairwise_append.1 h3
    obtain ⟨i1, i2⟩ := ih hl h2'.1 h3'.1
    have O := ot_ok hs l hl h2'.1 h3'.1
    have hal : a ∉ l := fun hm => h2'.2.2 a hm a (by simp) rfl
    have hla : ∀ b ∈ l, due js b ≤ due js a := fun b hb => h3'.2.2 b hb a (by simp)
    have hspn : ∀ x, ix js x → 0 ≤ spn js x := fun x hx => by
      have := jvB_s (ok_at (ok := fun j => jvB j = true) hs hx); simp only [spn]; omega
    generalize hK : (ot js l).1 = K at *
    have hKl : ∀ b ∈ K, b ∈ l := fun b hb => O.sub b (by rw [hK]; exact hb)
    have hKn : K.Nodup := by rw [← hK]; exact O.nodup
    have hPK : (ot js l).2 = spns js K := by rw [← hK]; exact O.sum
    have hbd := O.bd a ha hla
    have hMn : (K ++ [a]).Nodup := by
      rw [List.nodup_append]
      exact ⟨hKn, by simp, fun b hb c hc => by
        rw [List.mem_singleton] at hc; subst hc
        exact fun e => hal (e ▸ hKl b hb)⟩
    have hMs : ∀ b ∈ K ++ [a], 0 ≤ spn js b := fun b hb => by
      rcases List.mem_append.1 hb with h | h
      · exact hspn b (hl b (hKl b h))
      · rw [List.mem_singleton] at h; subst h; exact hspn _ ha
    have hMd : ∀ b ∈ K ++ [a], due js b ≤ due js a := fun b hb => by
      rcases List.mem_append.1 hb with h | h
      · exact hla b (hKl b h)
      · rw [List.mem_singleton] at h; subst h; exact Int.le_refl _
    have hsumM : spns js (K ++ [a]) = (ot js l).2 + spn js a := by rw [spns_append, hPK]; simp [spns]
    -- a choice for l with a more
    have hch : ∀ c : Int → Bool, fz js ((l ++ [a]).filter c) → ∃ b : Int → Bool, (K ++ [a]).countP b = (l ++ [a]).countP c ∧ sd js b (K ++ [a]) ≤ sd js c (l ++ [a]) ∧ (K.countP b ≤ K.length) ∧ b a = c a := by
      intro c hc
      obtain ⟨b, b1, b2⟩ := i2 c (by
        refine fz_sub (m := (l ++ [a]).filter c) ?_ (fun x hx => hspn x (h1 x (List.mem_filter.1 hx).1)) hc
        rw [List.filter_append]; exact List.sublist_append_left _ _)
      refine ⟨fun x => if x = a then c a else b x, ?_, ?_, List.countP_le_length, by simp⟩
      · rw [List.countP_append, List.countP_append, ← b1]
        congr 1
        · exact List.countP_congr fun x hx => by
            have : x ≠ a := fun e => hal (e ▸ hKl x hx)
            simp [this]
        · simp [List.countP_cons]
      · rw [sd_append, sd_append]
        have e1 : sd js (fun x => if x = a then c a else b x) K = sd js b K := sd_congr js K fun x hx => by
          have : x ≠ a := fun e => hal (e ▸ hKl x hx)
          simp [this]
        rw [e1]
        simp only [sd, if_true]
        omega
    -- what is left when one is given up
    have hpart : ∀ K' : List Int, K'.Sublist (K ++ [a]) → (∀ x ∈ K', x ∈ K ∨ x = a) → spns js K' ≤ due js a → fz js K' := by
      intro K' hsub hmem hle x hx
      by_cases hd : due js x < due js a
      · have hxK : x ∈ K := by
          rcases hmem x hx with h | h
          · exact h
          · subst h; omega
        refine Int.le_trans (sd_sub hsub hMs) ?_
        rw [sd_append]
        have : sd js (fun b => decide (due js b ≤ due js x)) [a] = 0 := by
          have : ¬ due js a ≤ due js x := by omega
          simp [sd, this]
        have := i1 x hxK
        omega
      · have he : due js x = due js a := by
          have := hMd x (hsub.subset hx); omega
        rw [sd_all js K' fun b hb => by rw [decide_eq_true_eq, he]; exact hMd b (hsub.subset hb), he]
        exact hle
    rw [ot_snoc]
    unfold otStep
    split
    · rename_i hq
      have hwl : worst js (K ++ [a]) < (K ++ [a]).length := worstTo_lt js _ _ (by simp)
      have hmax := worstTo_max js (K ++ [a]) (K ++ [a]).length
      have hqs : due js a < spns js (K ++ [a]) := by rw [hsumM]; simpa [otPre] using hq
      have hK' : (otCut js (otPre js (ot js l) a)).1 = (K ++ [a]).eraseIdx (worst js (K ++ [a])) := by simp only [otCut, otPre, hK]
      rw [hK']
      have hmx : ∀ y ∈ K ++ [a], spn js y ≤ spn js (K ++ [a])[worst js (K ++ [a])] := fun y hy => by
        obtain ⟨j, hj, rfl⟩ := List.getElem_of_mem hy
        have h := hmax j hj
        rw [getD_lt hj] at h
        have e : (K ++ [a]).getD (worst js (K ++ [a])) 0 = (K ++ [a])[worst js (K ++ [a])] := getD_lt hwl
        unfold worst at e
        rw [e] at h
        exact h
      have hxm : (K ++ [a])[worst js (K ++ [a])] ∈ K ++ [a] := List.getElem_mem hwl
      have hsp := spns_erase js (K ++ [a]) _ hwl
      have her := erase_filter hMn hwl
      generalize (K ++ [a])[worst js (K ++ [a])] = x at *
      refine ⟨hpart _ (List.eraseIdx_sublist _ _) (fun y hy => ?_) ?_, fun c hc => ?_⟩
      · have := List.mem_of_mem_eraseIdx hy
        rcases List.mem_append.1 this with h | h
        · exact .inl h
        · exact .inr (by simpa using h)
      · have := hmx a (by simp); omega
      · obtain ⟨b, b1, b2, b3, b4⟩ := hch c hc
        rw [her]
        have hcx : ∀ b' : Int → Bool, b' x = false → ((K ++ [a]).filter fun z => decide (z ≠ x)).countP b' = (K ++ [a]).countP b' ∧ sd js b' ((K ++ [a]).filter fun z => decide (z ≠ x)) = sd js b' (K ++ [a]) := by
          intro b' hb'
          constructor
          · rw [List.countP_filter]
            refine List.countP_congr fun z _ => ?_
            by_cases e : z = x
            · subst e; simp [hb']
            · simp [e]
          · have : ∀ m : List Int, sd js b' (m.filter fun z => decide (z ≠ x)) = sd js b' m := by
              intro m
              induction m with
              | nil => rfl
              | cons z m ih =>
                simp only [List.filter_cons, sd]
                by_cases e : z = x
                · subst e; simp only [ne_eq, not_true, decide_false, Bool.false_eq_true, if_false, hb', Int.zero_add]; exact ih
                · simp only [e, ne_eq, not_false_eq_true, decide_true, if_true, sd, ih]
            exact this _
        cases hbx : b x with
        | false =>
          obtain ⟨e1, e2⟩ := hcx b hbx
          exact ⟨b, by rw [e1, b1], by rw [e2]; exact b2⟩
        | true =>
          by_cases hall : ∀ y ∈ K ++ [a], b y = true
          · exfalso
            have hcnt : (K ++ [a]).countP b = (K ++ [a]).length := List.countP_eq_length.2 hall
            have hca : c a = true := by rw [← b4]; exact hall a (by simp)
            have hae : a ∈ (l ++ [a]).filter c := List.mem_filter.2 ⟨by simp, hca⟩
            have hfa := hc a hae
            rw [sd_all js _ fun z hz => by
              rw [decide_eq_true_eq]
              rcases List.mem_append.1 (List.mem_filter.1 hz).1 with h | h
              · exact hla z h
              · rw [List.mem_singleton] at h; subst h; exact Int.le_refl _, spns_sd] at hfa
            rw [sd_all js _ hall] at b2
            omega
          · have hy : ∃ y ∈ K ++ [a], b y = false := by
              refine Classical.byContradiction fun hno => hall fun y hy => ?_
              cases h : b y with
              | true => rfl
              | false => exact absurd ⟨y, hy, h⟩ hno
            obtain ⟨y, hy1, hy2⟩ := hy
            have hyx : y ≠ x := fun e => by subst e; rw [hbx] at hy2; cases hy2
            let b0 : Int → Bool := fun z => if z = x then false else b z
            let b' : Int → Bool := fun z => if z = y then true else b0 z
            have e0x : b0 x = false := by simp [b0]
            have e'x : b' x = false := by
              have hxy : x ≠ y := fun h => hyx h.symm
              simp only [b', if_neg hxy, e0x]
            have c1 := cnt_out (c := b) (c' := b0) hMn hxm (fun z _ hz => by simp [b0, hz]) hbx e0x
            have c2 := cnt_out (c := b') (c' := b0) hMn hy1 (fun z _ hz => by simp [b', hz]) (by simp [b']) (by simp [b0, hyx, hy2])
            have s1 := sd_out (js := js) (c := b) (c' := b0) hMn hxm (fun z _ hz => by simp [b0, hz]) hbx e0x
            have s2 := sd_out (js := js) (c := b') (c' := b0) hMn hy1 (fun z _ hz => by simp [b', hz]) (by simp [b']) (by simp [b0, hyx, hy2])
            have := hmx y hy1
            obtain ⟨e1, e2⟩ := hcx b' e'x
            exact ⟨b', by rw [e1]; omega, by rw [e2]; omega⟩
    · rename_i hq
      have hK' : (otPre js (ot js l) a).1 = K ++ [a] := by simp only [otPre, hK]
      rw [hK']
      refine ⟨hpart _ (List.Sublist.refl _) (fun y hy => ?_) ?_, fun c hc => ?_⟩
      · rcases List.mem_append.1 hy with h | h
        · exact .inl h
        · exact .inr (by simpa using h)
      · rw [hsumM]; simp only [otPre] at hq; omega
      · obtain ⟨b, b1, b2, -, -⟩ := hch c hc
        exact ⟨b, b1, b2⟩

/-- Those that are on time in an order. -/
def ont (js : List J) : Int → List Int → List Int
  | _, [] => []
  | t, a :: l => if due js a < t + spn js a then ont js (t + spn js a) l else a :: ont js (t + spn js a) l
theorem ont_sub (js : List J) : ∀ t l, (ont js t l).Sublist l
  | _, [] => List.Sublist.refl _
  | t, a :: l => by
    simp only [ont]
    split
    · exact (ont_sub js _ l).cons _
    · exact (ont_sub js _ l).cons_cons _
theorem ont_len (js : List J) : ∀ t l, sumI (cs js (fMany js) t l) + (ont js t l).length = l.length
  | _, [] => by simp [cs, sumI, ont]
  | t, a :: l => by
    have := ont_len js (t + spn js a) l
    simp only [cs, sumI, ont, fMany]
    split <;> simp <;> omega
theorem ont_fz (js : List J) (D : Int) : ∀ t l, (∀ a ∈ l, 0 ≤ spn js a) → (∃ a ∈ ont js t l, due js a ≤ D) → t + sd js (fun b => decide (due js b ≤ D)) (ont js t l) ≤ D
  | _, [], _, h => by obtain ⟨a, h, _⟩ := h; simp [ont] at h
  | t, a :: l, hs, h => by
    have ha := hs a (by simp)
    have ih := ont_fz js D (t + spn js a) l fun b hb => hs b (by simp [hb])
    by_cases hl : due js a < t + spn js a
    · have e : ont js t (a :: l) = ont js (t + spn js a) l := by simp only [ont, if_pos hl]
      rw [e] at h ⊢
      have := ih h; omega
    · have e : ont js t (a :: l) = a :: ont js (t + spn js a) l := by simp only [ont, if_neg hl]
      rw [e] at h ⊢
      simp only [sd]
      by_cases hr : ∃ b ∈ ont js (t + spn js a) l, due js b ≤ D
      · have := ih hr
        split <;> omega
      · have hz : sd js (fun b => decide (due js b ≤ D)) (ont js (t + spn js a) l) = 0 := by
          have : ∀ m : List Int, (∀ b ∈ m, ¬ due js b ≤ D) → sd js (fun b => decide (due js b ≤ D)) m = 0 := by
            intro m
            induction m with
            | nil => intro _; rfl
            | cons b m ih =>
              intro h
              simp only [sd, decide_eq_true_eq, if_neg (h b (by simp)), ih fun c hc => h c (by simp [hc])]; rfl
          exact this _ fun b hb hd => hr ⟨b, hb, hd⟩
        rw [hz]
        have hd : due js a ≤ D := by
          obtain ⟨b, hb, hd⟩ := h
          rcases List.mem_cons.1 hb with rfl | hb
          · exact hd
          · exact absurd ⟨b, hb, hd⟩ hr
        simp only [hd, decide_true, if_true]; omega

/-- The order by Due has no late ones if all can be on time. -/
theorem edd_fz {js : List J} {l : List Int} (hd : l.Pairwise fun a b => due js a ≤ due js b) (hs : ∀ a ∈ l, 0 ≤ spn js a) (hf : fz js l) : sumI (cs js (fMany js) 0 l) = 0 := by
  have : ∀ B A, l = A ++ B → sumI (cs js (fMany js) (spns js A) B) = 0 := by
    intro B
    induction B with
    | nil => intro A _; rfl
    | cons a B ih =>
      intro A e
      simp only [cs, sumI]
      have ih' := ih (A ++ [a]) (by rw [e]; simp)
      rw [spns_append] at ih'
      simp only [spns, Int.add_zero] at ih'
      rw [ih']
      have hle : spns js A + spn js a ≤ due js a := by
        refine Int.le_trans ?_ (hf a (by rw [e]; simp))
        rw [e, show A ++ a :: B = (A ++ [a]) ++ B by simp] at hd hs ⊢
        rw [List.pairwise_append] at hd
        rw [sd_append, sd_all js (A ++ [a]) fun b hb => ?_, spns_append]
        · have := sd_nn js (fun b => decide (due js b ≤ due js a)) B fun b hb => hs b (List.mem_append_right _ hb)
          simp only [spns]; omega
        · rw [decide_eq_true_eq]
          rcases List.mem_append.1 hb with h | h
          · exact (List.pairwise_append.1 hd.1).2.2 b h a (by simp)
          · rw [List.mem_singleton] at h; subst h; exact Int.le_refl _
      unfold fMany
      rw [if_neg (by omega)]; rfl
  simpa [spns] using this l [] rfl
theorem ont_all {js : List J} {l : List Int} (hs : ∀ a ∈ l, 0 ≤ spn js a) (h : sumI (cs js (fMany js) 0 l) = 0) : fz js l := by
  have hl := ont_len js 0 l
  have he : ont js 0 l = l := (ont_sub js 0 l).eq_of_length (by omega)
  intro a ha
  have := ont_fz js (due js a) 0 l hs ⟨a, by rw [he]; exact ha, Int.le_refl _⟩
  rw [he] at this
  omega

theorem spn_nn {js : List J} (hv : jsvB js = true) {a : Int} (ha : ix js a) : 0 ≤ spn js a := by
  have := jvB_s (jv_ix hv ha); simp only [spn]; omega

/-- A valid list's facts of what is kept. -/
theorem kept_facts {js : List J} (hv : jsvB js = true) : (∀ a ∈ keptR js, ix js a) ∧ (keptR js).Nodup ∧ fz js (keptR js) ∧
    ∀ S : List Int, S.Nodup → (∀ a ∈ S, ix js a) → fz js S → S.length ≤ (keptR js).length := by
  have hs := ok_due js hv
  have ho := order_ord cmpDue hv
  have hp := ord_perm ho
  have hn := hp.nodup_iff.2 (idx_nodup _)
  have hm : ∀ a ∈ orderR kDue js, ix js a := fun a ha => idx_mem.1 (hp.mem_iff.1 ha)
  have hd : (orderR kDue js).Pairwise fun a b => due js a ≤ due js b := (order_sorted cmpDue hv).imp fun h => by
    have := h.1; unfold kDue at this; simp only [due]; omega
  have O := ot_ok hs (orderR kDue js) hm hn hd
  obtain ⟨m1, m2⟩ := mh hs (orderR kDue js) hm hn hd
  rw [kept_eq]
  refine ⟨fun a ha => hm a (O.sub a ha), O.nodup, m1, fun S hS hSm hSf => ?_⟩
  have hperm : ((orderR kDue js).filter fun a => decide (a ∈ S)).Perm S := by
    refine (List.perm_ext_iff_of_nodup (hn.filter _) hS).2 fun a => ?_
    rw [List.mem_filter, decide_eq_true_eq]
    exact ⟨fun h => h.2, fun h => ⟨hp.mem_iff.2 (idx_mem.2 (hSm a h)), h⟩⟩
  obtain ⟨b, b1, -⟩ := m2 (fun a => decide (a ∈ S)) (fz_perm hperm.symm hSf)
  rw [List.countP_eq_length_filter (l := orderR kDue js), hperm.length_eq] at b1
  rw [← b1]; exact List.countP_le_length
theorem onTime_perm {js : List J} (hv : jsvB js = true) : (onTimeR js).Perm (keptR js) := by
  obtain ⟨k1, k2, -, -⟩ := kept_facts hv
  refine (List.perm_ext_iff_of_nodup ((asc_sorted _ _).imp fun h => by omega) k2).2 fun a => ?_
  show a ∈ ascTo (keptR js) js.length ↔ _
  rw [asc_mem]
  exact ⟨fun h => h.2.2, fun h => ⟨(k1 a h).1, (k1 a h).2, h⟩⟩
theorem onTime_facts {js : List J} (hv : jsvB js = true) : (∀ a ∈ onTimeR js, ix js a) ∧ (onTimeR js).Nodup ∧ fz js (onTimeR js) ∧
    ∀ S : List Int, S.Nodup → (∀ a ∈ S, ix js a) → fz js S → S.length ≤ (onTimeR js).length := by
  obtain ⟨k1, k2, k3, k4⟩ := kept_facts hv
  have hp := onTime_perm hv
  exact ⟨fun a ha => k1 a (hp.mem_iff.1 ha), hp.nodup_iff.2 k2, fz_perm hp.symm k3, fun S h1 h2 h3 => by rw [hp.length_eq]; exact k4 S h1 h2 h3⟩
/-- In no order fewer are late. -/
theorem late_ge {js : List J} {os : List Int} (h : okB js os = true) : (js.length : Int) - (onTimeR js).length ≤ lateR js os := by
  have hv := ok_jsv h
  have ho := ok_ord h
  obtain ⟨o1, o2, o3⟩ := ord_iff.1 ho
  obtain ⟨-, -, -, k4⟩ := onTime_facts hv
  have hs : ∀ a ∈ os, 0 ≤ spn js a := fun a ha => spn_nn hv (o3 a ha)
  have hsub := ont_sub js 0 os
  have := k4 (ont js 0 os) (o2.sublist hsub) (fun a ha => o3 a (hsub.subset ha)) fun a ha => by
    have := ont_fz js (due js a) 0 os hs ⟨a, ha, Int.le_refl _⟩; omega
  have hl := ont_len js 0 os
  rw [late_cs h]; omega

theorem few_perm {js : List J} (hv : jsvB js = true) : (fewR js).Perm (idx js.length) := by
  refine List.Perm.trans ?_ (ord_perm (order_ord cmpDue hv))
  unfold fewR inK offK
  exact List.filter_append_perm _ _
theorem few_ok {js : List J} (hv : jsvB js = true) : okB js (fewR js) = true := by
  simp only [okB, hv, ord_of_perm (few_perm hv), Bool.and_self]
theorem inK_perm {js : List J} (hv : jsvB js = true) : (inK (onTimeR js) (orderR kDue js)).Perm (onTimeR js) := by
  have hp := ord_perm (order_ord cmpDue hv)
  obtain ⟨k1, k2, -, -⟩ := onTime_facts hv
  refine (List.perm_ext_iff_of_nodup ((hp.nodup_iff.2 (idx_nodup _)).filter _) k2).2 fun a => ?_
  rw [List.mem_filter, hasI_iff]
  exact ⟨fun h => h.2, fun h => ⟨hp.mem_iff.2 (idx_mem.2 (k1 a h)), h⟩⟩
theorem cs_many_le (js : List J) : ∀ t l, sumI (cs js (fMany js) t l) ≤ l.length
  | _, [] => by simp [cs, sumI]
  | t, a :: l => by
    have := cs_many_le js (t + spn js a) l
    simp only [cs, sumI, fMany, List.length_cons]
    split <;> omega
theorem few_late {js : List J} (hv : jsvB js = true) : lateR js (fewR js) = js.length - (onTimeR js).length := by
  have hge := late_ge (few_ok hv)
  have hp := inK_perm hv
  obtain ⟨k1, k2, k3, -⟩ := onTime_facts hv
  have hd : (inK (onTimeR js) (orderR kDue js)).Pairwise fun a b => due js a ≤ due js b := by
    refine List.Pairwise.sublist (List.filter_sublist) ((order_sorted cmpDue hv).imp fun h => ?_)
    have := h.1; unfold kDue at this; simp only [due]; omega
  have h0 := edd_fz hd (fun a ha => spn_nn hv (k1 a (hp.mem_iff.1 ha))) (fz_perm hp.symm k3)
  have hlen := inK_len (onTimeR js) (orderR kDue js)
  rw [hp.length_eq, (ord_iff.1 (order_ord cmpDue hv)).1] at hlen
  have hle : lateR js (fewR js) ≤ (offK (onTimeR js) (orderR kDue js)).length := by
    rw [late_cs (few_ok hv), fewR, cs_append, sumI_append, h0]
    have := cs_many_le js (0 + spns js (inK (onTimeR js) (orderR kDue js))) (offK (onTimeR js) (orderR kDue js))
    omega
  omega

/-- Some jobs of a list, by their indices. -/
def part (js : List J) (S : List Int) : List J := S.map (jAt js)
theorem part_at {js : List J} {S : List Int} {k : Nat} (h : k < S.length) : jAt (part js S) k = jAt js S[k] := by
  rw [jAt_lt (by simpa [part] using h)]; simp [part]
theorem part_jsv {js : List J} (hv : jsvB js = true) {S : List Int} (hS : ∀ a ∈ S, ix js a) (hl : S.length ≤ 6) : jsvB (part js S) = true := by
  simp only [jsvB, part, List.length_map, Bool.and_eq_true, decide_eq_true_eq, List.all_map, List.all_eq_true, Function.comp]
  exact ⟨hl, fun a ha => jv_ix hv (hS a ha)⟩
theorem map_idx (S : List Int) : (idx S.length).map (fun a => S.getD a.toNat 0) = S := by
  apply List.ext_getElem
  · simp [idx_len]
  · intro k h1 h2
    simp [idx, h2]
theorem sd_part {js : List J} {S : List Int} (c : Int → Bool) : ∀ l : List Int, (∀ a ∈ l, 0 ≤ a ∧ a < (S.length : Int)) → sd (part js S) (fun a => c (S.getD a.toNat 0)) l = sd js c (l.map fun a => S.getD a.toNat 0)
  | [], _ => rfl
  | a :: l, h => by
    obtain ⟨h0, h1⟩ := h a (by simp)
    obtain ⟨k, rfl⟩ := Int.eq_ofNat_of_zero_le h0
    have hk : k < S.length := by omega
    simp only [sd, List.map_cons]
    rw [sd_part c l fun b hb => h b (by simp [hb])]
    simp only [spn, part_at hk, Int.toNat_natCast, getD_lt hk]
theorem fz_part {js : List J} {S : List Int} : fz (part js S) (idx S.length) ↔ fz js S := by
  have key : ∀ k (hk : k < S.length), sd (part js S) (fun b => decide (due (part js S) b ≤ due (part js S) k)) (idx S.length) = sd js (fun b => decide (due js b ≤ due js S[k])) S := by
    intro k hk
    have h1 := sd_part (js := js) (S := S) (fun b => decide (due js b ≤ due js S[k])) (idx S.length) fun a ha => idx_mem.1 ha
    rw [map_idx] at h1
    rw [← h1]
    refine sd_congr _ _ fun a ha => ?_
    obtain ⟨h0, h2⟩ := idx_mem.1 ha
    obtain ⟨i, rfl⟩ := Int.eq_ofNat_of_zero_le h0
    have hi : i < S.length := by omega
    simp only [due, part_at hi, part_at hk, Int.toNat_natCast, getD_lt hi]
  have dk : ∀ k (hk : k < S.length), due (part js S) k = due js S[k] := fun k hk => by simp only [due, part_at hk]
  constructor
  · intro h a ha
    obtain ⟨k, hk, rfl⟩ := List.getElem_of_mem ha
    have := h (k : Int) (idx_mem.2 ⟨by omega, by omega⟩)
    rw [key k hk, dk k hk] at this
    exact this
  · intro h a ha
    obtain ⟨h0, h2⟩ := idx_mem.1 ha
    obtain ⟨k, rfl⟩ := Int.eq_ofNat_of_zero_le h0
    have hk : k < S.length := by omega
    rw [key k hk, dk k hk]
    exact h _ (List.getElem_mem hk)
/-- Some jobs are on time in DueOrder exactly if they can be. -/
theorem part_good {js : List J} (hv : jsvB js = true) {S : List Int} (hS : ∀ a ∈ S, ix js a) (hl : S.length ≤ 6) : lateR (part js S) (orderR kDue (part js S)) = 0 ↔ fz js S := by
  have hq := part_jsv hv hS hl
  have hok := order_ok cmpDue hq
  have hp := ord_perm (ok_ord hok)
  have hpl : (part js S).length = S.length := by simp [part]
  have hs : ∀ a ∈ orderR kDue (part js S), 0 ≤ spn (part js S) a := fun a ha => spn_nn hq (idx_mem.1 (hp.mem_iff.1 ha))
  rw [late_cs hok, ← fz_part]
  rw [hpl] at hp
  constructor
  · exact fun h => fz_perm hp (ont_all hs h)
  · intro h
    refine edd_fz ((order_sorted cmpDue hq).imp fun h => ?_) hs (fz_perm hp.symm h)
    have := h.1; unfold kDue at this; simp only [due]; omega
end Go.Proofs.YtfjemnjdkniibaaDoor
