/-
  The draws of jobs. Weak contracts: some slice of some jobs.
-/
import Derived.Test.YtfjemnjdkniibaaDoorDraw
import Derived.Laws.AppendOwn
namespace Go.Proofs.YtfjemnjdkniibaaDoor
open Go.RowKit

/-- The cells of jobs, one behind the other. -/
def flatJ (js : List J) : List Value := js.flatMap fun j => [.int .i64 j.s, .int .i64 j.d, .int .i64 j.g]
theorem flatJ_len : ∀ js : List J, (flatJ js).length = js.length * 3
  | [] => rfl
  | j :: js => by
    have := flatJ_len js
    simp only [flatJ, List.flatMap_cons, List.length_append, List.length_cons, List.length_nil] at this ⊢
    omega
theorem flatJ_append (a b : List J) : flatJ (a ++ b) = flatJ a ++ flatJ b := by simp [flatJ]
theorem flatJ_at : ∀ (js : List J) (i : Nat) (h : i < js.length), (flatJ js)[i * 3]? = some (.int .i64 js[i].s) ∧ (flatJ js)[i * 3 + 1]? = some (.int .i64 js[i].d) ∧ (flatJ js)[i * 3 + 2]? = some (.int .i64 js[i].g)
  | j :: js, 0, _ => ⟨rfl, rfl, rfl⟩
  | j :: js, i + 1, h => by
    have := flatJ_at js i (by simpa using h)
    have e : flatJ (j :: js) = [.int .i64 j.s, .int .i64 j.d, .int .i64 j.g] ++ flatJ js := rfl
    rw [e, show (i + 1) * 3 = i * 3 + 3 by omega, show i * 3 + 3 + 1 = i * 3 + 1 + 3 by omega, show i * 3 + 3 + 2 = i * 3 + 2 + 3 by omega]
    rw [List.getElem?_append_right (by simp), List.getElem?_append_right (by simp), List.getElem?_append_right (by simp)]
    simpa using this
theorem ownsRow_other {w w' : World} {base T sz lo hi n : Nat} {v : Value} {cs : List Value} (h : w.ownsRow base T sz v n cs) (k : Other lo hi w w') (hd : hi ≤ base) : w'.ownsRow base T sz v n cs := by
  refine ⟨h.1, ?_⟩
  rcases h.2 with h | ⟨g, cap, cur, e, h0, h1, r⟩
  · exact .inl h
  · refine .inr ⟨g, cap, cur, e, h0, ?_, r⟩
    have hlt := (Array.getElem?_eq_some_iff.1 h1).1
    rw [k.block g hlt (.inr (by omega))]
    exact h1
theorem ownsRow_below {w w' : World} {base T sz B n : Nat} {v : Value} {cs : List Value} (h : w.ownsRow base T sz v n cs) (k : Below B w w') (hB : w.heap.size ≤ B) : w'.ownsRow base T sz v n cs := by
  refine ⟨h.1, ?_⟩
  rcases h.2 with h | ⟨g, cap, cur, e, h0, h1, r⟩
  · exact .inl h
  · refine .inr ⟨g, cap, cur, e, h0, ?_, r⟩
    have hlt := (Array.getElem?_eq_some_iff.1 h1).1
    rw [k.block g (by omega)]
    exact h1
theorem Other.step {lo hi B : Nat} {a b c : World} (h : Other lo hi a b) (k : Below B b c) (hB : a.heap.size ≤ B) : Other lo hi a c :=
  ⟨k.os.trans h.os, k.tape.trans h.tape, k.output.trans h.output, Nat.le_trans h.size k.size, fun i hi ho => (k.block i (by omega)).trans (h.block i hi ho)⟩
theorem Below.grow {base T sz n B : Nat} {w w' : World} {v : Value} {cs : List Value} (hg : w.grownBy w' v.ownBlock) (ho : w.ownsRow base T sz v n cs) (hb : B ≤ base) (hB : B ≤ w.heap.size) : Below B w w' :=
  (Below.refl _ _).grown hg hB fun k hk => Nat.le_trans hb (ho.lt k hk).1
theorem ownJ_at {w : World} {base n : Nat} {v : Value} {js : List J} (h : w.ownsRow base 24 3 v n (flatJ js)) (hn : n = js.length) : JobsAt base w.heap.size w v js := by
  subst hn
  rcases id h.2 with ⟨rfl, h0⟩ | ⟨g, cap, cur, rfl, hb, hg, h1, h2, -, -⟩
  · have : js = [] := List.eq_nil_of_length_eq_zero h0
    subst this
    exact ⟨none, 0, rfl, by simp, by simp, Nat.le_refl _, fun h => absurd h (by simp)⟩
  · unfold maxLen at h2
    have hlt := h.lt g rfl
    refine ⟨_, cap, rfl, h1, h2, Nat.le_refl _, fun _ => ⟨g, 0, rfl, hlt.1, hlt.2, fun i hi => ?_⟩⟩
    obtain ⟨f1, f2, f3⟩ := flatJ_at js i hi
    have hadd : ∀ i, (⟨g, 0, none⟩ : Addr).add i = ⟨g, i, none⟩ := fun i => by unfold Addr.add; split <;> simp_all
    have c := h.cells rfl
    refine ⟨⟨?_, ?_, ?_⟩, ?_, ?_, ?_⟩
    · have := c _ _ f1; rw [hadd] at this; rw [Nat.zero_add]; exact this
    · have := c _ _ f2; rw [hadd] at this; rw [Nat.zero_add]; exact this
    · have := c _ _ f3; rw [hadd] at this; rw [Nat.zero_add]; exact this
    · exact h.frozenAt _
    · exact h.frozenAt _
    · exact h.frozenAt _

theorem lit_cells (w : World) (cs : List Value) (T : Nat) : ∀ j u, cs[j]? = some u → (w.alloc (.cells cs.toArray T)).cell? ((⟨w.heap.size, 0, none⟩ : Addr).add j) = some u := by
  intro j u hu
  have hadd : (⟨w.heap.size, 0, none⟩ : Addr).add j = ⟨w.heap.size, j, none⟩ := by unfold Addr.add; split <;> simp_all
  rw [hadd]
  have h := heap_alloc_new w (.cells cs.toArray T)
  unfold World.cell?
  simp only [h]
  simpa using hu
/-- Jobs were drawn. -/
def JobsGot (R k : Nat) (w : World) (e : Ending) (w' : World) : Prop :=
  ∃ v js, e = .returned v ∧ js.length ≤ 7 ∧ (∃ g c, v = .slice (some ⟨g, 0, none⟩) js.length c) ∧ JobsAt w.heap.size w'.heap.size w' v js ∧ Other R (R + 1) w w' ∧ Rd R (k + 30) w'
theorem flatJ_one : ∀ (js : List J), ∀ u ∈ flatJ js, u.oneCell' = true := by
  intro js u hu
  simp only [flatJ, List.mem_flatMap] at hu
  obtain ⟨j, _, hj⟩ := hu
  simp at hj
  rcases hj with rfl | rfl | rfl <;> rfl
theorem lit_own {w0 : World} (w : World) (js : List J) (hb : w0.heap.size ≤ w.heap.size) (hl : js.length ≤ 1048576 := by simp) :
    (w.alloc (.cells (flatJ js).toArray 24)).ownsRow w0.heap.size 24 3 (.slice (some ⟨w.heap.size, 0, none⟩) js.length js.length) js.length (flatJ js) := by
  have := World.ownsRow_lit (e := 24) (size := 3) w (flatJ js).toArray js.length hb (by unfold maxLen; omega) (by simp [flatJ_len])
  simpa using this
theorem tail_cells {w : World} {base g n cap : Nat} {js : List J} (h : w.ownsRow base 24 3 (.slice (some ⟨g, 0, none⟩) n cap) n (flatJ js)) :
    ∀ j u, (flatJ (js.drop 1))[j]? = some u → w.cell? ((⟨g, 3, none⟩ : Addr).add j) = some u := by
  intro j u hu
  have hadd : ∀ o i, (⟨g, o, none⟩ : Addr).add i = ⟨g, o + i, none⟩ := fun o i => by unfold Addr.add; split <;> simp_all
  have := h.cells rfl (3 + j) u (by
    cases js with
    | nil => simp [flatJ] at hu
    | cons a js => rw [show flatJ (a :: js) = [.int .i64 a.s, .int .i64 a.d, .int .i64 a.g] ++ flatJ js from rfl, List.getElem?_append_right (by simp)]; simpa using hu)
  rw [hadd] at this ⊢
  simpa using this
theorem own_le {w : World} {base T sz n cap : Nat} {ao : Option Addr} {cs : List Value} (h : w.ownsRow base T sz (.slice ao n cap) n cs) : n ≤ cap := by
  rcases h.2 with ⟨e, h0⟩ | ⟨g, cap', cur, e, _, _, h1, _⟩
  · omega
  · simp only [Value.slice.injEq] at e; omega
/-- What an append behind one new job leaves. -/
theorem jobs_front {R k kk n : Nat} {w w3 w5 : World} {j : J} {js : List J} {v' : Value} {cs : List Value} (ho : Other R (R + 1) w w3) (hr : Rd R kk w3) (hlt : R < w.heap.size) (hk : kk ≤ k + 30)
    (hown : w5.ownsRow w.heap.size 24 3 v' n cs)
    (hg : (w3.alloc (.cells #[.int .i64 j.s, .int .i64 j.d, .int .i64 j.g] 24)).grownBy w5 (some w3.heap.size)) (hl : js.length ≤ 6) (hc : cs = flatJ (j :: js)) (hn : n = (j :: js).length) : JobsGot R k w (.returned v') w5 := by
  subst hc hn
  have hb : Below w.heap.size w3 w5 := ((Below.refl _ _).alloc ho.size _).grown hg (Nat.le_trans ho.size (by simp)) fun k hk => by
    simp only [Option.some.injEq] at hk; subst hk; exact ho.size
  have hnn : ∃ g c, v' = .slice (some ⟨g, 0, none⟩) (j :: js).length c := by
    rcases hown.2 with ⟨_, h0⟩ | ⟨g, cap, cur, e, _⟩
    · simp at h0
    · exact ⟨g, cap, e⟩
  exact ⟨v', j :: js, rfl, by simp; omega, hnn, ownJ_at hown rfl, ho.step hb (Nat.le_refl _), (hr.keep hb hlt).mono hk⟩
set_option maxRecDepth 10000 in
set_option maxHeartbeats 800000 in
theorem l20Jobs_any (R k : Nat) (m : Int) (w : World) (h : Rd R k w) (hk : k ≤ 100000) (hm1 : 1 ≤ m) (hm2 : m ≤ 100000) :
    Calls Tryd.prog 78 #[.pointer (some ⟨R, 0, none⟩), .int .i64 m] w (JobsGot R k w) := by
  obtain ⟨i0, hi0, hz0, hi1, hi2⟩ := info_parts info_job
  have HR := hide h
  have hlt := h.lt
  clear h
  go_enter Tryd.func78, Tryd.ntmps78
  go_wp2_with fail
  refine (pick_in R k 7 _ (HR.out.keep ((Below.refl w.heap.size w).alloc (Nat.le_refl _) _) hlt) (by omega) (by omega) (by omega)).mono ?_
  rintro e w1 ⟨x, rfl, hx0, hx1, ho, hr⟩
  have hO1 : Other R (R + 1) w w1 := (Other.of_below ((Below.refl w.heap.size w).alloc (Nat.le_refl _) (.cells #[] 24))).trans ho
  have hown1 : w1.ownsRow w.heap.size 24 3 (.slice (some ⟨w.heap.size, 0, none⟩) 0 0) 0 [] :=
    ownsRow_other (World.ownsRow_made w #[] 0 (Nat.le_refl _) (Nat.zero_le _) rfl) ho (by omega)
  have HO1 := hide hO1
  have HW1 := hide hown1
  have HR1 := hide hr
  clear hO1 hown1 hr ho
  go_wp2_with fail
  go_loopw [5, 6] (fun o i wr => ∃ (n : Nat) (js : List J), i = .int .i64 n ∧ n + js.length ≤ 6 ∧ (∃ g cap, o = .slice (some ⟨g, 0, none⟩) js.length cap) ∧ Other R (R + 1) w wr ∧ Rd R (k + 1 + 3 * js.length) wr ∧ wr.ownsRow w.heap.size 24 3 o js.length (flatJ js)) (fun _ i _ => (intOf i).toNat)
  case atStart => exact ⟨x.toNat, [], by rw [Int.toNat_of_nonneg hx0], by simp; omega, ⟨_, _, rfl⟩, HO1.out, HR1.out, HW1.out⟩
  case round =>
    obtain ⟨n, js, rfl, hn, ⟨g, cap, rfl⟩, ho, hr, hw⟩ := hrel
    have HO := hide ho
    have HR := hide hr
    have HW := hide hw
    clear ho hr hw
    by_cases h0 : 0 < n
    · go_wp2_with fail
      refine (pick_in R _ 15 _ HR.out (by omega) (by omega) (by omega)).mono ?_
      rintro e w2 ⟨x1, rfl, p1, p2, ho2, hr2⟩
      have HO2 := hide (HO.out.trans ho2)
      have HR2 := hide hr2
      have HW2 := hide (ownsRow_other HW.out ho2 (by omega))
      clear ho2 hr2
      go_wp2_with fail
      refine (pick_in R _ 60 _ HR2.out (by omega) (by omega) (by omega)).mono ?_
      rintro e w3 ⟨x2, rfl, q1, q2, ho3, hr3⟩
      have HO3 := hide (HO2.out.trans ho3)
      have HR3 := hide hr3
      have HW3 := hide (ownsRow_other HW2.out ho3 (by omega))
      clear ho3 hr3
      go_wp2_with fail
      refine (pick_in R _ 9 _ HR3.out (by omega) (by omega) (by omega)).mono ?_
      rintro e w4 ⟨x3, rfl, r1, r2, ho4, hr4⟩
      have HO4 := hide (HO3.out.trans ho4)
      have HR4 := hide hr4
      have HW4 := hide (ownsRow_other HW3.out ho4 (by omega))
      have HLT := hide (HO4.out.size)
      clear ho4 hr4
      go_wp2_with (at_builtin; refine wpList_append_own _ rfl _ _ _ rfl w.heap.size 24 i0 _ 3 24 Tryd.underlying29 hi0 hz0 hi1 hi2 rfl (by decide) _ js.length (flatJ js) rfl (HW4.out.alloc _) ⟨w4.heap.size, 0, none⟩ 1 1 (flatJ [⟨1 + x1, x2, 1 + x3⟩]) rfl rfl ?c1 ?c2 ?c3 ?c4 ?c5 ?_)
      case c1 => exact lit_cells w4 (flatJ [⟨1 + x1, x2, 1 + x3⟩]) _
      case c2 => intro u hu; simp [flatJ] at hu; rcases hu with rfl | rfl | rfl <;> rfl
      case c3 => unfold maxLen; omega
      case c4 => omega
      case c5 => exact Nat.le_trans HLT.out (by simp)
      intro v' w5 hown5 hgrow _
      have hB5 : Below w.heap.size w4 w5 := ((Below.refl _ _).alloc HLT.out _).trans (Below.grow hgrow (HW4.out.alloc _) (Nat.le_refl _) (Nat.le_trans HLT.out (by simp)))
      have HO5 := hide (HO4.out.step hB5 (Nat.le_refl _))
      have HR5 := hide (HR4.out.keep hB5 hlt)
      rw [← flatJ_append] at hown5
      have hsh : ∃ g cap, v' = .slice (some ⟨g, 0, none⟩) (js.length + 1) cap := by
        rcases hown5.2 with ⟨_, h0⟩ | ⟨g, cap, cur, e, _⟩
        · omega
        · exact ⟨_, _, e⟩
      obtain ⟨g', cap', rfl⟩ := hsh
      have HW5 := hide hown5
      clear hown5 hgrow hB5
      go_wp2_with fail
      go_roundw
      case rel => exact ⟨n - 1, js ++ [⟨1 + x1, x2, 1 + x3⟩], by rw [Int.ofNat_sub (by omega)]; rfl, by simp; omega, ⟨g', cap', by simp⟩, HO5.out, HR5.out.mono (by simp; omega), by simpa using HW5.out⟩
      case measure => simp [intOf]; omega
    · obtain rfl : n = 0 := by omega
      have hjI : (js.length : Int) ≤ 6 := by omega
      go_wp2_with fail
      refine (odd_any R _ m _ HR.out (by omega) hm1 (by omega)).mono ?_
      rintro e w2 ⟨b, rfl, ho2, hr2⟩
      have HO2 := hide (HO.out.trans ho2)
      have HR2 := hide hr2
      have HW2 := hide (ownsRow_other HW.out ho2 (by omega))
      clear ho2 hr2
      cases b with
      | false =>
        go_wp2_with fail
        go_ret
        exact ⟨_, js, rfl, by omega, ⟨_, _, rfl⟩, ownJ_at HW2.out rfl, HO2.out, HR2.out.mono (by omega)⟩
      | true =>
        go_wp2_with fail
        refine (pick_in R _ 3 _ HR2.out (by omega) (by omega) (by omega)).mono ?_
        rintro e w3 ⟨x1, rfl, q1, q2, ho3, hr3⟩
        have HO3 := hide (HO2.out.trans ho3)
        have HR3 := hide hr3
        have HW3 := hide (ownsRow_other HW2.out ho3 (by omega))
        clear ho3 hr3
        have hx3 : x1 = 0 ∨ x1 = 1 ∨ x1 = 2 := by omega
        rcases hx3 with rfl | hx3
        · have hmk : ∀ W : World, (Instr.makeSlice 29 (.int .i64 7) (.int .i64 7)).run Tryd.prog W = .ok (.slice (some ⟨W.heap.size, 0, none⟩) 7 7) (W.alloc (.cells (flatJ (List.replicate 7 ⟨0, 0, 0⟩)).toArray 24)) := fun W => by kernel_rfl
          go_wp2_with fail
          go_ret
          exact ⟨_, List.replicate 7 ⟨0, 0, 0⟩, rfl, by simp, ⟨_, _, rfl⟩, ownJ_at (lit_own w3 (List.replicate 7 ⟨0, 0, 0⟩) HO3.out.size) (by simp), HO3.out.step ((Below.refl _ _).alloc HO3.out.size _) (Nat.le_refl _), (HR3.out.keep ((Below.refl _ _).alloc (Nat.le_refl _) _) HR3.out.lt).mono (by omega)⟩
        · by_cases hj : js.length = 0
          · have : js = [] := List.eq_nil_of_length_eq_zero hj
            subst this
            rcases hx3 with rfl | rfl
            · go_wp2_with (at_builtin; refine wpList_append_own _ rfl _ _ _ rfl w.heap.size 24 i0 _ 3 24 Tryd.underlying29 hi0 hz0 hi1 hi2 rfl (by decide) _ 1 (flatJ [⟨0, 0, 1⟩]) rfl (lit_own w3 [⟨0, 0, 1⟩] HO3.out.size) _ _ _ (flatJ []) rfl ?c1 ?c2 ?c3 ?c4 ?c5 ?c6 ?_)
              case c1 => rfl
              case c2 => intro j u hu; simp [flatJ] at hu
              case c3 => exact flatJ_one _
              case c4 => unfold maxLen; omega
              case c5 => omega
              case c6 => exact Nat.le_trans HO3.out.size (by simp)
              intro v' w5 hown5 hgrow _
              have HF := hide (jobs_front (k := k) HO3.out HR3.out hlt (by omega) hown5 hgrow (js := []) (by simp) rfl rfl)
              clear hown5 hgrow
              go_wp2_with fail
              go_ret
              exact HF.out
            · go_wp2_with (at_builtin; refine wpList_append_own _ rfl _ _ _ rfl w.heap.size 24 i0 _ 3 24 Tryd.underlying29 hi0 hz0 hi1 hi2 rfl (by decide) _ 1 (flatJ [⟨1, 1000, 1⟩]) rfl (lit_own w3 [⟨1, 1000, 1⟩] HO3.out.size) _ _ _ (flatJ []) rfl ?c1 ?c2 ?c3 ?c4 ?c5 ?c6 ?_)
              case c1 => rfl
              case c2 => intro j u hu; simp [flatJ] at hu
              case c3 => exact flatJ_one _
              case c4 => unfold maxLen; omega
              case c5 => omega
              case c6 => exact Nat.le_trans HO3.out.size (by simp)
              intro v' w5 hown5 hgrow _
              have HF := hide (jobs_front (k := k) HO3.out HR3.out hlt (by omega) hown5 hgrow (js := []) (by simp) rfl rfl)
              clear hown5 hgrow
              go_wp2_with fail
              go_ret
              exact HF.out
          · by_cases hc : cap = 1
            · subst hc
              have hl1 : js.length = 1 := by
                have := own_le HW.out; omega
              obtain ⟨j0, rfl⟩ := List.length_eq_one_iff.1 hl1
              rcases hx3 with rfl | rfl
              · go_wp2_with (at_builtin; refine wpList_append_own _ rfl _ _ _ rfl w.heap.size 24 i0 _ 3 24 Tryd.underlying29 hi0 hz0 hi1 hi2 rfl (by decide) _ 1 (flatJ [⟨0, 0, 1⟩]) rfl (lit_own w3 [⟨0, 0, 1⟩] HO3.out.size) _ _ _ (flatJ []) rfl ?c1 ?c2 ?c3 ?c4 ?c5 ?c6 ?_)
                case c1 => rfl
                case c2 => intro j u hu; simp [flatJ] at hu
                case c3 => exact flatJ_one _
                case c4 => unfold maxLen; omega
                case c5 => omega
                case c6 => exact Nat.le_trans HO3.out.size (by simp)
                intro v' w5 hown5 hgrow _
                have HF := hide (jobs_front (k := k) HO3.out HR3.out hlt (by omega) hown5 hgrow (js := []) (by simp) rfl rfl)
                clear hown5 hgrow
                go_wp2_with fail
                go_ret
                exact HF.out
              · go_wp2_with (at_builtin; refine wpList_append_own _ rfl _ _ _ rfl w.heap.size 24 i0 _ 3 24 Tryd.underlying29 hi0 hz0 hi1 hi2 rfl (by decide) _ 1 (flatJ [⟨1, 1000, 1⟩]) rfl (lit_own w3 [⟨1, 1000, 1⟩] HO3.out.size) _ _ _ (flatJ []) rfl ?c1 ?c2 ?c3 ?c4 ?c5 ?c6 ?_)
                case c1 => rfl
                case c2 => intro j u hu; simp [flatJ] at hu
                case c3 => exact flatJ_one _
                case c4 => unfold maxLen; omega
                case c5 => omega
                case c6 => exact Nat.le_trans HO3.out.size (by simp)
                intro v' w5 hown5 hgrow _
                have HF := hide (jobs_front (k := k) HO3.out HR3.out hlt (by omega) hown5 hgrow (js := []) (by simp) rfl rfl)
                clear hown5 hgrow
                go_wp2_with fail
                go_ret
                exact HF.out
            · have hcB : ((cap : Int) == 1) = false := by simp; omega
              rcases hx3 with rfl | rfl
              · go_wp2_with (at_builtin; refine wpList_append_own _ rfl _ _ _ rfl w.heap.size 24 i0 _ 3 24 Tryd.underlying29 hi0 hz0 hi1 hi2 rfl (by decide) _ 1 (flatJ [⟨0, 0, 1⟩]) rfl (lit_own w3 [⟨0, 0, 1⟩] HO3.out.size) _ _ _ (flatJ (js.drop 1)) rfl ?c1 ?c2 ?c3 ?c4 ?c5 ?c6 ?_)
                case c1 => rw [flatJ_len]; simp
                case c2 => exact tail_cells (HW3.out.alloc _)
                case c3 => exact flatJ_one _
                case c4 => unfold maxLen; omega
                case c5 => omega
                case c6 => exact Nat.le_trans HO3.out.size (by simp)
                intro v' w5 hown5 hgrow _
                have HF := hide (jobs_front (k := k) HO3.out HR3.out hlt (by omega) hown5 hgrow (j := ⟨0, 0, 1⟩) (js := js.tail) (by simp; omega) rfl (by simp; omega))
                clear hown5 hgrow
                go_wp2_with fail
                go_ret
                exact HF.out
              · go_wp2_with (at_builtin; refine wpList_append_own _ rfl _ _ _ rfl w.heap.size 24 i0 _ 3 24 Tryd.underlying29 hi0 hz0 hi1 hi2 rfl (by decide) _ 1 (flatJ [⟨1, 1000, 1⟩]) rfl (lit_own w3 [⟨1, 1000, 1⟩] HO3.out.size) _ _ _ (flatJ (js.drop 1)) rfl ?c1 ?c2 ?c3 ?c4 ?c5 ?c6 ?_)
                case c1 => rw [flatJ_len]; simp
                case c2 => exact tail_cells (HW3.out.alloc _)
                case c3 => exact flatJ_one _
                case c4 => unfold maxLen; omega
                case c5 => omega
                case c6 => exact Nat.le_trans HO3.out.size (by simp)
                intro v' w5 hown5 hgrow _
                have HF := hide (jobs_front (k := k) HO3.out HR3.out hlt (by omega) hown5 hgrow (j := ⟨1, 1000, 1⟩) (js := js.tail) (by simp; omega) rfl (by simp; omega))
                clear hown5 hgrow
                go_wp2_with fail
                go_ret
                exact HF.out
end Go.Proofs.YtfjemnjdkniibaaDoor
