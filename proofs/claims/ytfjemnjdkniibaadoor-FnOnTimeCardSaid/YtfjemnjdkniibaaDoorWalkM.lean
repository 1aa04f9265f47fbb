/-
  The walks over the comparisons, the library's stable sort of at most 20 ints by a comparison, and jobOrder.
-/
import Derived.Test.YtfjemnjdkniibaaDoorPlainSort
import Derived.Test.YtfjemnjdkniibaaDoorWalkK
import Derived.BigRegion
namespace Go.Proofs.YtfjemnjdkniibaaDoor
open Go.RowKit

def jV (a : J) : Value := .agg #[.int .i64 a.s, .int .i64 a.d, .int .i64 a.g]

/-- Function c compares jobs by K. -/
structure Compares (c : Nat) (K : J → J → Int) : Prop where
  enter : ∀ (args : Array Value) (w : World), (callFunc c args).run Tryd.prog w = .ok (.enter c args) w
  calls : ∀ (a b : J) (w : World), jvB a = true → jvB b = true → Calls Tryd.prog c #[jV a, jV b] w fun e w' => e = .returned (.int .i64 (K a b)) ∧ Below w.heap.size w w'

theorem due_cmp : Compares 90 kDue := by
  refine ⟨fun _ _ => by kernel_rfl, fun a b w ha hb => ?_⟩
  obtain ⟨a1, a2⟩ := jvB_d ha
  obtain ⟨b1, b2⟩ := jvB_d hb
  have HA := hide ha
  have HB := hide hb
  clear ha hb
  unfold jV
  go_enter Tryd.func90, Tryd.ntmps90
  go_wp2
  go_ret
  exact ⟨rfl, by go_grown⟩

theorem span_cmp : Compares 88 kSpan := by
  refine ⟨fun _ _ => by kernel_rfl, fun a b w ha hb => ?_⟩
  obtain ⟨a1, a2⟩ := jvB_s ha
  obtain ⟨b1, b2⟩ := jvB_s hb
  have HA := hide ha
  have HB := hide hb
  clear ha hb
  unfold jV
  go_enter Tryd.func88, Tryd.ntmps88
  go_wp2
  go_ret
  exact ⟨rfl, by go_grown⟩

theorem mul_bd' {a b x y : Int} (h1 : 0 ≤ a) (h2 : a ≤ x) (h3 : 0 ≤ b) (h4 : b ≤ y) : 0 ≤ a * b ∧ a * b ≤ x * y :=
  ⟨Int.mul_nonneg h1 h3, Int.mul_le_mul h2 h4 h3 (by omega)⟩

theorem weight_cmp : Compares 89 kWeight := by
  refine ⟨fun _ _ => by kernel_rfl, fun a b w ha hb => ?_⟩
  obtain ⟨a1, a2⟩ := jvB_s ha
  obtain ⟨b1, b2⟩ := jvB_s hb
  obtain ⟨c1, c2⟩ := jvB_g ha
  obtain ⟨d1, d2⟩ := jvB_g hb
  have m1 := mul_bd' (show 0 ≤ a.s by omega) a2 (show 0 ≤ b.g by omega) d2
  have m2 := mul_bd' (show 0 ≤ b.s by omega) b2 (show 0 ≤ a.g by omega) c2
  obtain ⟨m11, m12⟩ := m1
  obtain ⟨m21, m22⟩ := m2
  have HA := hide ha
  have HB := hide hb
  clear ha hb
  unfold jV
  go_enter Tryd.func89, Tryd.ntmps89
  go_wp2
  go_ret
  exact ⟨rfl, by go_grown⟩

set_option maxRecDepth 10000 in
set_option maxHeartbeats 400000 in
/-- The comparison of two indices. -/
theorem less_any {c : Nat} {K : J → J → Int} (hc : Compares c K) (v : Value) (js : List J) (lo hi pc pl : Nat) (i j : Nat) (w : World) (h : JobsAt lo hi w v js) (hv : jsvB js = true) (hi' : i < js.length) (hj' : j < js.length)
    (hpc : w.cell? ⟨pc, 0, none⟩ = some (.func (.func c) #[] #[])) (hpl : w.cell? ⟨pl, 0, none⟩ = some v) :
    Calls Tryd.prog 99 #[.int .i64 i, .int .i64 j, .pointer (some ⟨pc, 0, none⟩), .pointer (some ⟨pl, 0, none⟩)] w fun e w' => e = .returned (.int .i64 (K (jAt js i) (jAt js j))) ∧ Below w.heap.size w w' := by
  have hl := jsvB_len hv
  have hvi := jsvB_at hv hi'
  have hvj := jsvB_at hv hj'
  rw [jAt_lt hi', jAt_lt hj']
  obtain ⟨ao, cap, rfl, hlc, hcap, hhi, hcc⟩ := h
  obtain ⟨b, o, rfl, hx1, hx2, hcs⟩ := hcc (by omega)
  obtain ⟨⟨p1, p2, p3⟩, -⟩ := hcs i hi'
  obtain ⟨⟨q1, q2, q3⟩, -⟩ := hcs j hj'
  have hiI : (i : Int) < (js.length : Int) := by omega
  have hjI : (j : Int) < (js.length : Int) := by omega
  have hen := hc.enter
  have HC := hide hc
  have HVI := hide hvi
  have HVJ := hide hvj
  clear hcs hcc hv hvi hvj hc
  go_enter Tryd.func99, Tryd.ntmps99
  go_wp2_with fail
  go_still_tail 9, (by kernel_rfl)
  change wpList _ _ _ _ _ (World.drew _)
  go_wp2_with fail
  refine (HC.out.calls js[i] js[j] _ HVI.out HVJ.out).mono ?_
  rintro e w1 ⟨rfl, hb⟩
  go_wp2_with fail
  go_ret
  exact ⟨rfl, Below.trans (Below.refl _ _).drew hb⟩

/-- What the comparison of indices needs. -/
structure CmpEnv (c : Nat) (v : Value) (js : List J) (lo hi pc pl g : Nat) (w : World) : Prop where
  jobs : JobsAt lo hi w v js
  cell1 : w.cell? ⟨pc, 0, none⟩ = some (.func (.func c) #[] #[])
  cell2 : w.cell? ⟨pl, 0, none⟩ = some v
  lt1 : pc < g
  lt2 : pl < g
  hig : hi ≤ g
  gw : g < w.heap.size

theorem CmpEnv.other {c : Nat} {v : Value} {js : List J} {lo hi pc pl g : Nat} {w w' : World} (h : CmpEnv c v js lo hi pc pl g w) (k : Other g (g + 1) w w') : CmpEnv c v js lo hi pc pl g w' := by
  obtain ⟨h1, h2, h3, h4, h5, h6, h7⟩ := h
  refine ⟨h1.other k (.inl h6), ?_, ?_, h4, h5, h6, Nat.lt_of_lt_of_le h7 k.size⟩
  · rw [World.cell?_of_block (w := w) (k.block pc (by omega) (.inl h4))]; exact h2
  · rw [World.cell?_of_block (w := w) (k.block pl (by omega) (.inl h5))]; exact h3

theorem other_drewN {lo hi : Nat} {a w : World} (h : Other lo hi a w) (n : Nat) : Other lo hi a (w.drewN n) := ⟨h.os, h.tape, h.output, h.size, h.block⟩
theorem eq_nil_or_end (A : List Int) : A = [] ∨ ∃ A' l, A = A' ++ [l] := by
  rcases List.eq_nil_or_concat A with h | ⟨A', l, h⟩
  · exact .inl h
  · exact .inr ⟨A', l, by rw [h]; simp⟩
theorem getD_app1 {A B : List Int} {x : Int} : (A ++ x :: B).getD A.length 0 = x := by simp
theorem getD_app2 {A B : List Int} {l x : Int} : ((A ++ [l]) ++ x :: B).getD A.length 0 = l := by simp
theorem swap_app {A B : List Int} {l x : Int} (i : Nat) : (A ++ x :: (l :: B)).getD i 0 = if i = A.length then x else if i = A.length + 1 then l else ((A ++ [l]) ++ x :: B).getD i 0 := by
  simp only [List.getD, List.append_assoc, List.singleton_append]
  rcases Nat.lt_or_ge i A.length with h | h
  · have h1 : ¬ i = A.length := by omega
    have h2 : ¬ i = A.length + 1 := by omega
    rw [if_neg h1, if_neg h2, List.getElem?_append_left h, List.getElem?_append_left h]
  · obtain ⟨d, rfl⟩ : ∃ d, i = A.length + d := ⟨i - A.length, by omega⟩
    rw [List.getElem?_append_right (by omega), List.getElem?_append_right (by omega)]
    rw [show A.length + d - A.length = d by omega]
    match d with
    | 0 => simp
    | 1 => simp
    | d + 2 => simp

theorem getD_ins1 {A B D : List Int} {l x : Int} : (((A ++ [l]) ++ x :: B) ++ D).getD (A.length + 1) 0 = x := by
  have h : ((A ++ [l]) ++ x :: B) ++ D = (A ++ [l]) ++ x :: (B ++ D) := by simp
  have h2 : A.length + 1 = (A ++ [l]).length := by simp
  rw [h, h2, getD_app1]
theorem getD_ins2 {A B D : List Int} {l x : Int} : (((A ++ [l]) ++ x :: B) ++ D).getD A.length 0 = l := by
  have h : ((A ++ [l]) ++ x :: B) ++ D = A ++ l :: (x :: B ++ D) := by simp
  rw [h, getD_app1]
theorem swap_ins {A B D : List Int} {l x : Int} (i : Nat) : ((A ++ x :: (l :: B)) ++ D).getD i 0 = if i = A.length then x else if i = A.length + 1 then l else (((A ++ [l]) ++ x :: B) ++ D).getD i 0 := by
  have h1 : (A ++ x :: (l :: B)) ++ D = A ++ x :: (l :: (B ++ D)) := by simp
  have h2 : ((A ++ [l]) ++ x :: B) ++ D = (A ++ [l]) ++ x :: (B ++ D) := by simp
  rw [h1, h2, swap_app]

/-- The row after the k-th was put in. -/
theorem ins_close {K : J → J → Int} {ok : J → Prop} (C : Cmp K ok) {js : List J} (hok : ∀ j ∈ js, ok j) {cur A B : List Int} {k : Nat} (hk : k < js.length) (hlen : cur.length = js.length) (hAB : cur.take k = A ++ B) (hs : (cur.take k).Pairwise (RI K js))
    (hm : ∀ a, a ∈ cur.take k ↔ 0 ≤ a ∧ a < (k : Int)) (hr : ∀ j, k ≤ j → j < js.length → cur.getD j 0 = j) (hB : ∀ b ∈ B, K (jAt js k) (jAt js b) < 0) (hl : ∀ a, A.getLast? = some a → ¬ K (jAt js k) (jAt js a) < 0) :
    ((A ++ (k : Int) :: B) ++ cur.drop (k + 1)).length = js.length ∧ (((A ++ (k : Int) :: B) ++ cur.drop (k + 1)).take (k + 1)).Pairwise (RI K js) ∧ (∀ a, a ∈ ((A ++ (k : Int) :: B) ++ cur.drop (k + 1)).take (k + 1) ↔ 0 ≤ a ∧ a < ((k + 1 : Nat) : Int)) ∧
      ∀ j, k + 1 ≤ j → j < js.length → ((A ++ (k : Int) :: B) ++ cur.drop (k + 1)).getD j 0 = j := by
  have hL : A.length + B.length = k := by
    have := congrArg List.length hAB
    simp at this; omega
  have hT : ((A ++ (k : Int) :: B) ++ cur.drop (k + 1)).take (k + 1) = A ++ (k : Int) :: B := by
    rw [List.take_append_of_le_length (by simp; omega), List.take_of_length_le (by simp; omega)]
  have hin : ∀ a, a ∈ A ++ B ↔ 0 ≤ a ∧ a < (k : Int) := fun a => by rw [← hAB]; exact hm a
  refine ⟨by simp; omega, ?_, fun a => ?_, fun j h1 h2 => ?_⟩
  · rw [hT]
    refine insert_sorted C hok (fun a ha => ?_) ⟨by omega, by omega⟩ (by rw [← hAB]; exact hs) hB hl
    have := (hin a).1 ha
    exact ⟨⟨this.1, by omega⟩, this.2⟩
  · rw [hT]
    have := hin a
    simp only [List.mem_append, List.mem_cons] at this ⊢
    constructor
    · rintro (h | h | h)
      · have := this.1 (.inl h); omega
      · omega
      · have := this.1 (.inr h); omega
    · rintro ⟨h1, h2⟩
      by_cases e : a = k
      · exact .inr (.inl e)
      · rcases this.2 ⟨h1, by omega⟩ with h | h
        · exact .inl h
        · exact .inr (.inr h)
  · rw [← hr j (by omega) h2]
    simp only [List.getD]
    rw [List.getElem?_append_right (by simp; omega), List.getElem?_drop]
    congr 2
    simp; omega

set_option linter.unusedSimpArgs false in
set_option maxRecDepth 10000 in
set_option maxHeartbeats 1600000 in
theorem insertion_any {c : Nat} {K : J → J → Int} (hc : Compares c K) (hC : Cmp K fun j => jvB j = true) (v : Value) (js : List J) (lo hi pc pl g : Nat) (w : World) (h : CmpEnv c v js lo hi pc pl g w) (hv : jsvB js = true) (hn : 0 < js.length)
    (hr : w.rowIs g 3 js.length (fun j => .int .i64 (j : Int))) :
    Calls Tryd.prog 116 #[.slice (some ⟨g, 0, none⟩) js.length js.length, .int .i64 0, .int .i64 js.length, .func (.func 99) #[] #[.pointer (some ⟨pc, 0, none⟩), .pointer (some ⟨pl, 0, none⟩)]] w fun e w' =>
      e = .returned (.tuple #[]) ∧ Other g (g + 1) w w' ∧ w'.rowIs g 3 js.length (fun j => .int .i64 ((soTo K js js.length).getD j 0)) := by
  have hl := jsvB_len hv
  have hok : ∀ j ∈ js, jvB j = true := fun j hj => by
    obtain ⟨i, hi, rfl⟩ := List.getElem_of_mem hj
    exact jsvB_at hv hi
  have HOK := hide hok
  have HV := hide hv
  have HE := hide h
  have HC := hide hc
  have HCm := hide hC
  have Hr0 := hide hr
  have hen : ∀ (args : Array Value) (w : World), (callFunc 99 args).run Tryd.prog w = .ok (.enter 99 args) w := fun _ _ => by kernel_rfl
  clear hok hv h hc hC hr
  go_enter Tryd.func116, Tryd.ntmps116
  go_wp2_with fail
  go_loopw [8] (fun i wr => ∃ (k : Nat) (cur : List Int), 1 ≤ k ∧ k ≤ js.length ∧ i = .int .i64 k ∧ Other g (g + 1) w wr ∧ cur.length = js.length ∧ wr.rowIs g 3 js.length (fun j => .int .i64 (cur.getD j 0)) ∧
      (cur.take k).Pairwise (RI K js) ∧ (∀ a, a ∈ cur.take k ↔ 0 ≤ a ∧ a < (k : Int)) ∧ (∀ j, k ≤ j → j < js.length → cur.getD j 0 = j)) (fun i _ => js.length - (intOf i).toNat)
  case atStart =>
    refine ⟨1, (List.range js.length).map Int.ofNat, Nat.le_refl _, hn, rfl, Other.refl _ _ _, by simp, Hr0.out.congr fun i hi => by simp [hi], ?_, ?_, fun j _ hj => by simp [hj]⟩
    · rw [← List.map_take, List.take_range, Nat.min_eq_left (by omega)]; simp
    · intro a
      rw [← List.map_take, List.take_range, Nat.min_eq_left (by omega)]
      simp; omega
  case round =>
    obtain ⟨k, cur, hk1, hk, rfl, ho, hlen, hrow, hsort, hmem, hrest⟩ := hrel
    obtain ⟨wo, rfl⟩ : ∃ wo : World, wo = wr := ⟨_, rfl⟩
    have Hrow := hide hrow
    have Hlen := hide hlen
    have Hsort := hide hsort
    have Hmem := hide hmem
    have Hrest := hide hrest
    clear hrow hlen hsort hmem hrest
    by_cases hlt : k < js.length
    · go_wp2_with fail
      go_loopw [9] (fun i wx => ∃ (A B : List Int) (jj : Int), cur.take k = A ++ B ∧ i = .int .i64 jj ∧ jj = (A.length : Int) ∧ (∀ b ∈ B, K (jAt js k) (jAt js b) < 0) ∧ Other g (g + 1) w wx ∧ wx.rowIs g 3 js.length (fun j => .int .i64 (((A ++ (k : Int) :: B) ++ cur.drop (k + 1)).getD j 0))) (fun i _ => (intOf i).toNat)
      case atStart =>
        have hkl : k < cur.length := by rw [Hlen.out]; exact hlt
        have hck : cur[k] = (k : Int) := by have := Hrest.out k (Nat.le_refl _) hlt; simpa [hkl] using this
        refine ⟨cur.take k, [], (k : Int), by simp, rfl, by simp; rw [Hlen.out]; omega, by simp, ho, Hrow.out.congr fun i hi => ?_⟩
        have : (cur.take k ++ [(k : Int)]) ++ cur.drop (k + 1) = cur := by
          rw [← hck, ← List.take_succ_eq_append_getElem hkl, List.take_append_drop]
        rw [this]
      case round =>
        obtain ⟨A, B, jj, hAB, rfl, hjj, hB, hox, hrowx⟩ := hrel
        have HAB := hide hAB
        have HB := hide hB
        have Hrx := hide hrowx
        clear hAB hB hrowx
        rcases eq_nil_or_end A with rfl | ⟨A', l, rfl⟩
        · have hj0 : jj = 0 := by simpa using hjj
          have hz : decide (jj > 0) = false := by simp [hj0]
          clear hj0 hjj
          go_wp2_with fail
          go_quiet (fail)
          go_wp2_with fail
          obtain ⟨c1, c2, c3, c4⟩ := ins_close HCm.out HOK.out hlt Hlen.out HAB.out Hsort.out Hmem.out Hrest.out HB.out (by simp)
          exact ⟨⟨k + 1, ([] ++ (k : Int) :: B) ++ cur.drop (k + 1), by omega, by omega, by go_num, other_drewN hox _, c1, Hrx.out, c2, c3, c4⟩, by simp [intOf]; omega⟩
        · obtain ⟨ln, rfl, hln⟩ : ∃ n : Nat, l = n ∧ n < k := by
            have := (Hmem.out l).1 (by rw [HAB.out]; simp)
            exact ⟨l.toNat, by omega, by omega⟩
          have hq : A'.length < k := by
            have := congrArg List.length HAB.out
            simp at this; omega
          obtain ⟨q, hqA⟩ : ∃ q : Nat, q = A'.length := ⟨_, rfl⟩
          obtain ⟨p, hpq⟩ : ∃ p : Nat, p = q + 1 := ⟨_, rfl⟩
          have g1 := Hrx.out.cell (i := p) (by omega)
          have g2 := Hrx.out.cell (i := q) (by omega)
          have f1 := Hrx.out.frozen p
          have f2 := Hrx.out.frozen q
          rw [hpq, hqA, getD_ins1, ← hqA, ← hpq] at g1
          rw [hqA, getD_ins2, ← hqA] at g2
          obtain rfl : jj = (p : Int) := by rw [hjj, hpq, hqA]; simp
          have hz : decide (0 < p) = true := by simp; omega
          have hw : IntKind.i64.wrap ((p : Int) - 1) = (q : Int) := by rw [IntWalk.i64_in] <;> omega
          have hpj : p < js.length := by omega
          have hqj : q < js.length := by omega
          have hpjI : (p : Int) < (js.length : Int) := by omega
          have hqjI : (q : Int) < (js.length : Int) := by omega
          have HPQ := hide hpq
          have HQA := hide hqA
          clear hpq hqA hjj
          go_wp2_with fail
          go_still_tail 14, (by kernel_rfl)
          change wpList _ _ _ _ _ (World.drew _)
          go_wp2_with fail
          have hx := hox.drew
          have hE := HE.out.other hx
          refine (less_any HC.out v js lo hi pc pl k ln _ hE.jobs HV.out hlt (by omega) hE.cell1 hE.cell2).mono ?_
          rintro e w1 ⟨rfl, hb1⟩
          have hgz : g < wr.heap.size := Hrx.out.lt
          have hsz : wr.drew.heap.size = wr.heap.size := rfl
          rw [hsz] at hb1
          have hr1 : w1.rowIs g 3 js.length (fun j => .int .i64 ((((A' ++ [(ln : Int)]) ++ (k : Int) :: B) ++ cur.drop (k + 1)).getD j 0)) := rowIs_below (w := wr.drew) Hrx.out hb1 hgz
          have ho1 : Other g (g + 1) w w1 := hx.trans (Other.of_below hb1)
          have Hr1 := hide hr1
          have HX := hide hE
          clear hr1 hE
          by_cases hneg : K (jAt js k) (jAt js ln) < 0
          · have hnB : decide (K (jAt js k) (jAt js ln) < 0) = true := by simp [hneg]
            have HN := hide hneg
            clear hneg
            have g1' := Hr1.out.cell (i := p) (by omega)
            have g2' := Hr1.out.cell (i := q) (by omega)
            have f1' := Hr1.out.frozen p
            have f2' := Hr1.out.frozen q
            rw [HPQ.out, HQA.out, getD_ins1, ← HQA.out, ← HPQ.out] at g1'
            rw [HQA.out, getD_ins2, ← HQA.out] at g2'
            have hpq : p ≠ q := by have := HPQ.out; omega
            have e1 := (Hr1.out.set p (.int .i64 ln)).cell (i := q) (by omega)
            have e2 := (Hr1.out.set q (.int .i64 k)).cell (i := p) (by omega)
            have e3 := (Hr1.out.set p (.int .i64 ln)).frozen q
            have e4 := (Hr1.out.set q (.int .i64 k)).frozen p
            rw [if_neg hpq.symm, HQA.out, getD_ins2, ← HQA.out] at e1
            rw [if_neg hpq, HPQ.out, HQA.out, getD_ins1, ← HQA.out, ← HPQ.out] at e2
            have HNE := hide hpq
            clear hpq
            go_wp2_with fail
            go_region
            all_goals (go_wp2_with fail)
            all_goals clear e1 e2 e3 e4 g1 g2 f1 f2 g1' g2' f1' f2' hw
            all_goals
              refine ⟨⟨A', (ln : Int) :: B, (q : Int), by rw [HAB.out]; simp, rfl, by rw [HQA.out], ?_, ?_, ?_⟩, by have := HPQ.out; simp [intOf]; omega⟩
            all_goals first
              | (intro b hb; rcases List.mem_cons.1 hb with rfl | hb; exact HN.out; exact HB.out b hb)
              | exact ((ho1.setCell (Nat.le_refl _) (Nat.lt_succ_self _) _).setCell (Nat.le_refl _) (Nat.lt_succ_self _) _).drew
              | (refine World.rowIs.drew (((Hr1.out.set _ _).set _ _).congr fun i hi => ?_)
                 have h1 := HPQ.out
                 have h2 := HQA.out
                 have h3 := HNE.out
                 rw [swap_ins, ← h2, ← h1]
                 by_cases e1 : i = q
                 · simp [e1, h3, h3.symm]
                 · by_cases e2 : i = p
                   · simp [e1, e2, h3, h3.symm]
                   · simp [e1, e2])
          · have hnB : decide (K (jAt js k) (jAt js ln) < 0) = false := by simp [hneg]
            have HN := hide hneg
            clear hneg
            go_wp2_with fail
            obtain ⟨c1, c2, c3, c4⟩ := ins_close HCm.out HOK.out hlt Hlen.out HAB.out Hsort.out Hmem.out Hrest.out HB.out (by simp; exact HN.out)
            exact ⟨⟨k + 1, ((A' ++ [(ln : Int)]) ++ (k : Int) :: B) ++ cur.drop (k + 1), by omega, by omega, by go_num, ho1, c1, Hr1.out, c2, c3, c4⟩, by simp [intOf]; omega⟩
    · obtain rfl : k = js.length := by omega
      have hcur : cur = soTo K js js.length := so_unique HCm.out HOK.out (by simpa [List.take_of_length_le, Hlen.out] using Hsort.out) (fun a => by simpa [List.take_of_length_le, Hlen.out, ix] using Hmem.out a)
      have Hcur := hide hcur
      clear hcur
      go_wp2_with fail
      go_end0
      exact ⟨rfl, ho, by rw [← Hcur.out]; exact Hrow.out⟩
end Go.Proofs.YtfjemnjdkniibaaDoor
