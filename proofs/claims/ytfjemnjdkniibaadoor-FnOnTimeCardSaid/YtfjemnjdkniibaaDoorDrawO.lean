/-
  The draws of orders. Weak contracts: some slice of some ints.
-/
import Derived.Test.YtfjemnjdkniibaaDoorDrawJ
import Derived.Test.YtfjemnjdkniibaaDoorWalkU
namespace Go.Proofs.YtfjemnjdkniibaaDoor
open Go.RowKit

/-- An order was drawn. -/
def OrdGot (R k : Nat) (w : World) (e : Ending) (w' : World) : Prop :=
  ∃ v xs, e = .returned v ∧ xs.length ≤ 8 ∧ IntsAt w.heap.size w'.heap.size w' v xs ∧ Other R (R + 1) w w' ∧ Rd R (k + 12) w'
theorem OwnI.other {base lo hi : Nat} {w w' : World} {v : Value} {xs : List Int} (h : OwnI base w v xs) (k : Other lo hi w w') (hd : hi ≤ base) : OwnI base w' v xs :=
  ⟨h.1, ownsRow_other h.2 k hd⟩
/-- The first of a row. -/
theorem ownsRow_less {w : World} {base T g n cap m : Nat} {cs : List Value} (h : w.ownsRow base T 1 (.slice (some ⟨g, 0, none⟩) n cap) n cs) (hm : m ≤ n) : w.ownsRow base T 1 (.slice (some ⟨g, 0, none⟩) m cap) m (cs.take m) := by
  have hl := h.1
  refine ⟨by simp; omega, ?_⟩
  rcases h.2 with ⟨e, _⟩ | ⟨g', cap', cur, e, h0, h1, h2, h3, h4, h5⟩
  · cases e
  · simp only [Value.slice.injEq, Option.some.injEq, Addr.mk.injEq] at e
    obtain ⟨⟨rfl, -⟩, -, rfl⟩ := e
    refine .inr ⟨g, cap, cur, rfl, h0, h1, by omega, h3, h4, ?_⟩
    rw [← h5, List.take_take]
    congr 1; omega
theorem OwnI.less {base g cap m : Nat} {w : World} {xs : List Int} (h : OwnI base w (.slice (some ⟨g, 0, none⟩) xs.length cap) xs) (hm : m ≤ xs.length) : OwnI base w (.slice (some ⟨g, 0, none⟩) m cap) (xs.take m) := by
  have := ownsRow_less h.2 hm
  refine ⟨⟨g, cap, by simp; omega⟩, ?_⟩
  rw [List.length_take, Nat.min_eq_left hm, List.map_take]
  exact this
theorem OwnI.rest {base g cap m : Nat} {w : World} {xs : List Int} (h : OwnI base w (.slice (some ⟨g, 0, none⟩) xs.length cap) xs) :
    ∀ j u, ((xs.drop m).map (Value.int .i64))[j]? = some u → w.cell? ((⟨g, m, none⟩ : Addr).add j) = some u := by
  intro j u hu
  have hadd : ∀ o i, (⟨g, o, none⟩ : Addr).add i = ⟨g, o + i, none⟩ := fun o i => by unfold Addr.add; split <;> simp_all
  have := h.2.cells rfl (m + j) u (by simpa using hu)
  rw [hadd] at this ⊢
  simpa using this

/-- The rest copied: two slices apart. -/
theorem rest_two {base g cap a : Nat} {w2 w3 : World} {xs : List Int} {v' : Value} (hb : base ≤ w2.heap.size) (hw : OwnI base w2 (.slice (some ⟨g, 0, none⟩) xs.length cap) xs) (ha : a ≤ xs.length)
    (hown : w3.ownsRow w2.heap.size 3 1 v' (xs.length - a) ((xs.map (Value.int .i64)).drop a)) (hg : (w2.alloc (.cells #[] 3)).grownBy w3 (some w2.heap.size)) :
    Below w2.heap.size w2 w3 ∧ TwoOwn base w3 (.slice (some ⟨g, 0, none⟩) a cap) (xs.take a) v' (xs.drop a) ∧ ∃ ao c, v' = .slice ao (xs.length - a) c := by
  have hB : Below w2.heap.size w2 w3 := ((Below.refl _ _).alloc (Nat.le_refl _) (.cells #[] 3)).grown hg (by simp) fun k hk => by
    simp only [Option.some.injEq] at hk; omega
  have hlt := hw.2.lt g rfl
  have h1 := (hw.less ha).below hB (Nat.le_refl _)
  refine ⟨hB, ⟨.inr h1, ?_, ?_⟩, ?_⟩
  · have := OwnR.of_owns (base := w2.heap.size) (xs := xs.drop a) hown (by simp) (by simp)
    exact this.mono hb
  · intro k h2 h3
    simp [Value.ownBlock] at h2
    subst h2
    have := (hown.lt g h3).1
    omega
  · rcases hown.2 with ⟨e, h0⟩ | ⟨g', cap', cur, e, _⟩
    · exact ⟨none, 0, by rw [e, h0]⟩
    · exact ⟨_, _, e⟩

theorem own_some {base : Nat} {w : World} {v : Value} {xs : List Int} (h : OwnR base w v xs) (hx : xs ≠ []) : ∃ g cap, v = .slice (some ⟨g, 0, none⟩) xs.length cap ∧ OwnI base w v xs := by
  rcases h with ⟨_, h⟩ | h
  · exact absurd h hx
  · obtain ⟨g, cap, e⟩ := h.1
    exact ⟨g, cap, e, h⟩
theorem shuffle_front {R k kk many : Nat} {w w3 w4 : World} {xs : List Int} {v v' : Value} {y : Int} {o : Obj} (ho : Other R (R + 1) w w3) (hr : Rd R kk w3) (hlt : R < w.heap.size) (hk : kk ≤ k + 12) (hw : OwnI w.heap.size w3 v xs)
    (hown : w4.ownsRow w.heap.size 3 1 v' (xs.length + 1) (xs.map (Value.int .i64) ++ [.int .i64 y])) (hg : (w3.alloc o).grownBy w4 v.ownBlock) (hn : xs.length ≤ many) (hm : many ≤ 7) : OrdGot R k w (.returned v') w4 := by
  have hB : Below w.heap.size w3 w4 := ((Below.refl _ _).alloc ho.size _).grown hg (Nat.le_trans ho.size (by simp)) fun k hk => (hw.2.lt k hk).1
  refine ⟨v', xs ++ [y], rfl, by simp; omega, ?_, ho.step hB (Nat.le_refl _), (hr.keep hB hlt).mono hk⟩
  have h := OwnR.of_owns (base := w.heap.size) (xs := xs ++ [y]) hown (by simp) (by simp)
  exact h.at (Nat.le_trans ho.size hB.size)

set_option maxRecDepth 10000 in
set_option maxHeartbeats 800000 in
theorem shuffle_any (R k many : Nat) (m : Int) (w : World) (h : Rd R k w) (hk : k ≤ 100000) (hn : many ≤ 7) (hm1 : 1 ≤ m) (hm2 : m ≤ 100000) :
    Calls Tryd.prog 83 #[.pointer (some ⟨R, 0, none⟩), .int .i64 many, .int .i64 m] w (OrdGot R k w) := by
  obtain ⟨i0, hi0, hz0, hi1, hi2⟩ := info_parts info_int
  have hlt := h.lt
  have HR1 := hide (h.keep ((Below.refl w.heap.size w).alloc (Nat.le_refl _) (.cells #[] 3)) hlt)
  have HW1 := hide (OwnI.new w.heap.size w [] (Nat.le_refl _) (by simp))
  clear h
  go_enter Tryd.func83, Tryd.ntmps83
  go_wp2_with fail
  go_loopw [7, 8] (fun o i wr => ∃ (xs : List Int), i = .int .i64 (xs.length : Nat) ∧ xs.length ≤ many ∧ (∃ g cap, o = .slice (some ⟨g, 0, none⟩) xs.length cap) ∧ Other R (R + 1) w wr ∧ Rd R (k + xs.length) wr ∧ OwnI w.heap.size wr o xs) (fun _ i _ => many - (intOf i).toNat)
  case atStart => exact ⟨[], rfl, by simp, ⟨_, _, rfl⟩, Other.of_below ((Below.refl w.heap.size w).alloc (Nat.le_refl _) _), HR1.out, by simpa using HW1.out⟩
  case round =>
    obtain ⟨xs, rfl, hxn, ⟨g, cap, rfl⟩, ho, hr, hw⟩ := hrel
    have HO := hide ho
    have HR := hide hr
    have HW := hide hw
    have hcap := own_le hw.2
    clear ho hr hw
    by_cases hlt2 : xs.length < many
    · go_wp2_with fail
      refine (pick_in R _ _ _ HR.out (by omega) (by omega) (by omega)).mono ?_
      rintro e w2 ⟨x, rfl, p1, p2, ho2, hr2⟩
      obtain ⟨a, rfl⟩ := Int.eq_ofNat_of_zero_le p1
      have HO2 := hide (HO.out.trans ho2)
      have HR2 := hide hr2
      have HW2 := hide (HW.out.other ho2 (by omega))
      clear ho2 hr2
      have hax : a ≤ xs.length := by omega
      by_cases hc : a = cap
      · subst hc
        have hal : a = xs.length := by omega
        have hd0 : xs.length - a = 0 := by omega
        have hd1 : (xs.map (Value.int .i64)).drop a = [] := List.drop_of_length_le (by simp; omega)
        have Hd := hide (And.intro hd0 (And.intro hd1 hal))
        clear hd0 hd1 hal
        go_wp2_with (at_builtin; refine wpList_append_own _ rfl _ _ _ rfl w2.heap.size 3 i0 _ 1 8 Tryd.underlying36 hi0 hz0 hi1 hi2 rfl (by decide) _ 0 [] rfl (World.ownsRow_made w2 #[] 0 (Nat.le_refl _) (Nat.zero_le _) rfl) _ _ _ ((xs.drop a).map (Value.int .i64)) rfl ?c1 ?c2 ?c3 ?c4 ?c5 ?c6 ?_)
        case c1 => have := Hd.out.1; simp; omega
        case c2 => intro j u hu; have := Hd.out.1; rw [List.drop_of_length_le (by omega)] at hu; simp at hu
        case c3 => intro u hu; obtain ⟨y, _, rfl⟩ := List.mem_map.1 hu; rfl
        case c4 => unfold maxLen; omega
        case c5 => omega
        case c6 => simp
        intro v' w3 hown3 hgrow3 _
        have HT := hide (rest_two (base := w.heap.size) HO2.out.size HW2.out hax (by rw [Hd.out.1]; exact hown3) hgrow3)
        have hb3 := HT.out.1
        have HO3 := hide (HO2.out.step hb3 HO2.out.size)
        have HR3 := hide (HR2.out.keep hb3 HR2.out.lt)
        have hz3 : w.heap.size ≤ w3.heap.size := Nat.le_trans HO2.out.size hb3.size
        obtain ⟨a3, c3, e3⟩ := HT.out.2.2
        subst e3
        clear hown3 hgrow3 hb3
        have HT3 := hide (HT.out.2.1.below ((Below.refl w3.heap.size w3).alloc (Nat.le_refl _) (.cells #[.int .i64 (xs.length : Nat)] 3)) (Nat.le_refl _))
        go_wp2_with (first | (at_builtin; refine wpList_append_two rfl (.tmp 28) (.tmp 30) rfl w.heap.size _ _ (xs.take a) (xs.drop a) rfl HT3.out ⟨w3.heap.size, 0, none⟩ 1 (xs.length : Nat) rfl ?d2 ?d4 ?d5 ?_))
        case d2 => exact lit_cells w3 [.int .i64 (xs.length : Nat)] _
        case d4 => simp; omega
        case d5 => exact Nat.le_trans hz3 (by simp)
        intro v4 w4 hown4 hbel4
        have hB4 := hbel4 w.heap.size w3 (Nat.le_refl _) ((Below.refl _ _).alloc hz3 _)
        have HO4 := hide (HO3.out.step hB4 (Nat.le_refl _))
        have HR4 := hide (HR3.out.keep hB4 hlt)
        have HT4 := hide hown4
        have hz4 : w.heap.size ≤ w4.heap.size := Nat.le_trans hz3 hB4.size
        obtain ⟨a4, c4, e4⟩ := hown4.one.shape
        subst e4
        clear hown4 hbel4 hB4
        go_wp2_with (at_builtin; refine wpList_append_join rfl (.tmp 31) (.tmp 32) rfl w.heap.size _ _ (xs.take a ++ [(xs.length : Int)]) (xs.drop a) rfl HT4.out rfl ?f1 ?f2 ?_)
        case f1 => simp; omega
        case f2 => exact hz4
        intro v5 w5 hown5 hbel5
        have hB5 := hbel5 w.heap.size w4 (Nat.le_refl _) (Below.refl _ _)
        obtain ⟨g5, c5, e5, hI5⟩ := own_some hown5 (by simp)
        have e6 : v5 = .slice (some ⟨g5, 0, none⟩) (xs.length + 1) c5 := by
          rw [e5]; congr 1; simp; omega
        obtain ⟨ys, hys, hI6⟩ : ∃ ys : List Int, ys.length = xs.length + 1 ∧ OwnI w.heap.size w5 v5 ys := ⟨_, by simp; omega, hI5⟩
        clear e5 hI5
        subst e6
        have HO5 := hide (HO4.out.step hB5 (Nat.le_refl _))
        have HR5 := hide (HR4.out.keep hB5 hlt)
        have HW5 := hide hI6
        have HYS := hide hys
        have hyl : ys.length ≤ many := by omega
        clear hown5 hbel5 hB5 hI6 hys
        go_wp2_with fail
        go_roundw
        case rel => exact ⟨ys, by rw [HYS.out]; go_num, hyl, ⟨g5, c5, by rw [HYS.out]⟩, HO5.out, by rw [HYS.out]; exact HR5.out, HW5.out⟩
        case measure => simp [intOf]; omega
      · have hc1 : (a == cap) = false := by simp; omega
        have hc2 : ((a : Int) == (cap : Int)) = false := by simp; omega
        have hc3 : (cap == a) = false := by simp; omega
        go_wp2_with (at_builtin; refine wpList_append_own _ rfl _ _ _ rfl w2.heap.size 3 i0 _ 1 8 Tryd.underlying36 hi0 hz0 hi1 hi2 rfl (by decide) _ 0 [] rfl (World.ownsRow_made w2 #[] 0 (Nat.le_refl _) (Nat.zero_le _) rfl) ⟨g, a, none⟩ (xs.length - a) (cap - a) ((xs.drop a).map (Value.int .i64)) rfl ?c1 ?c2 ?c3 ?c4 ?c5 ?c6 ?_)
        case c1 => simp
        case c2 => exact OwnI.rest (HW2.out.below ((Below.refl w2.heap.size w2).alloc (Nat.le_refl _) _) (Nat.le_refl _))
        case c3 => intro u hu; obtain ⟨y, _, rfl⟩ := List.mem_map.1 hu; rfl
        case c4 => unfold maxLen; omega
        case c5 => omega
        case c6 => simp
        intro v' w3 hown3 hgrow3 _
        have HT := hide (rest_two (base := w.heap.size) HO2.out.size HW2.out hax hown3 hgrow3)
        have hb3 := HT.out.1
        have HO3 := hide (HO2.out.step hb3 HO2.out.size)
        have HR3 := hide (HR2.out.keep hb3 HR2.out.lt)
        have hz3 : w.heap.size ≤ w3.heap.size := Nat.le_trans HO2.out.size hb3.size
        obtain ⟨a3, c3, e3⟩ := HT.out.2.2
        subst e3
        clear hown3 hgrow3 hb3
        have HT3 := hide (HT.out.2.1.below ((Below.refl w3.heap.size w3).alloc (Nat.le_refl _) (.cells #[.int .i64 (xs.length : Nat)] 3)) (Nat.le_refl _))
        go_wp2_with (first | (at_builtin; refine wpList_append_two rfl (.tmp 28) (.tmp 30) rfl w.heap.size _ _ (xs.take a) (xs.drop a) rfl HT3.out ⟨w3.heap.size, 0, none⟩ 1 (xs.length : Nat) rfl ?d2 ?d4 ?d5 ?_))
        case d2 => exact lit_cells w3 [.int .i64 (xs.length : Nat)] _
        case d4 => simp; omega
        case d5 => exact Nat.le_trans hz3 (by simp)
        intro v4 w4 hown4 hbel4
        have hB4 := hbel4 w.heap.size w3 (Nat.le_refl _) ((Below.refl _ _).alloc hz3 _)
        have HO4 := hide (HO3.out.step hB4 (Nat.le_refl _))
        have HR4 := hide (HR3.out.keep hB4 hlt)
        have HT4 := hide hown4
        have hz4 : w.heap.size ≤ w4.heap.size := Nat.le_trans hz3 hB4.size
        obtain ⟨a4, c4, e4⟩ := hown4.one.shape
        subst e4
        clear hown4 hbel4 hB4
        go_wp2_with (at_builtin; refine wpList_append_join rfl (.tmp 31) (.tmp 32) rfl w.heap.size _ _ (xs.take a ++ [(xs.length : Int)]) (xs.drop a) rfl HT4.out rfl ?f1 ?f2 ?_)
        case f1 => simp; omega
        case f2 => exact hz4
        intro v5 w5 hown5 hbel5
        have hB5 := hbel5 w.heap.size w4 (Nat.le_refl _) (Below.refl _ _)
        obtain ⟨g5, c5, e5, hI5⟩ := own_some hown5 (by simp)
        have e6 : v5 = .slice (some ⟨g5, 0, none⟩) (xs.length + 1) c5 := by
          rw [e5]; congr 1; simp; omega
        obtain ⟨ys, hys, hI6⟩ : ∃ ys : List Int, ys.length = xs.length + 1 ∧ OwnI w.heap.size w5 v5 ys := ⟨_, by simp; omega, hI5⟩
        clear e5 hI5
        subst e6
        have HO5 := hide (HO4.out.step hB5 (Nat.le_refl _))
        have HR5 := hide (HR4.out.keep hB5 hlt)
        have HW5 := hide hI6
        have HYS := hide hys
        have hyl : ys.length ≤ many := by omega
        clear hown5 hbel5 hB5 hI6 hys
        go_wp2_with fail
        go_roundw
        case rel => exact ⟨ys, by rw [HYS.out]; go_num, hyl, ⟨g5, c5, by rw [HYS.out]⟩, HO5.out, by rw [HYS.out]; exact HR5.out, HW5.out⟩
        case measure => simp [intOf]; omega
    · obtain rfl : xs.length = many := by omega
      go_wp2_with fail
      refine (odd_any R _ m _ HR.out (by omega) hm1 (by omega)).mono ?_
      rintro e w2 ⟨b, rfl, ho2, hr2⟩
      have HO2 := hide (HO.out.trans ho2)
      have HR2 := hide hr2
      have HW2 := hide (HW.out.other ho2 (by omega))
      clear ho2 hr2
      cases b with
      | false =>
        go_wp2_with fail
        go_ret
        exact ⟨_, xs, rfl, by omega, HW2.out.at.mono (Nat.le_refl _) (Nat.le_refl _) (Nat.le_refl _), HO2.out, HR2.out.mono (by omega)⟩
      | true =>
        have hz2 : w.heap.size ≤ w2.heap.size := HO2.out.size
        have hR2 : R < w2.heap.size := by omega
        go_wp2_with fail
        refine (pick_in R _ 2 _ (HR2.out.keep ((Below.refl w2.heap.size w2).alloc (Nat.le_refl _) (.cells #[.int .i64 (xs.length : Nat), .int .i64 0] 3)) hR2) (by omega) (by omega) (by omega)).mono ?_
        rintro e w3 ⟨x, rfl, p1, p2, ho3, hr3⟩
        have hc : w3.cell? ⟨w2.heap.size, 0, none⟩ = some (.int .i64 (xs.length : Nat)) ∧ w3.cell? ⟨w2.heap.size, 1, none⟩ = some (.int .i64 0) := by
          refine ⟨?_, ?_⟩ <;> (rw [World.cell?_of_block (w := w2.alloc (.cells #[.int .i64 (xs.length : Nat), .int .i64 0] 3)) (ho3.block _ (by simp) (.inr (by show R + 1 ≤ w2.heap.size; omega)))]; simp [go_sem])
        obtain ⟨c1, c2⟩ := hc
        have HO3 := hide ((HO2.out.step ((Below.refl w2.heap.size w2).alloc (Nat.le_refl _) (.cells #[.int .i64 (xs.length : Nat), .int .i64 0] 3)) hz2).trans ho3)
        have HR3 := hide hr3
        have HW3 := hide ((HW2.out.below ((Below.refl w2.heap.size w2).alloc (Nat.le_refl _) (.cells #[.int .i64 (xs.length : Nat), .int .i64 0] 3)) (Nat.le_refl _)).other ho3 (by omega))
        have hz3 : w.heap.size ≤ w3.heap.size := HO3.out.size
        clear ho3 hr3
        have hx2 : x = 0 ∨ x = 1 := by omega
        rcases hx2 with rfl | rfl
        all_goals
          go_wp2_with (at_builtin; refine wpList_append_own _ rfl _ _ _ rfl w.heap.size 3 i0 _ 1 8 Tryd.underlying36 hi0 hz0 hi1 hi2 rfl (by decide) _ xs.length (xs.map (Value.int .i64)) rfl (HW3.out.2.alloc _) ⟨w3.heap.size, 0, none⟩ 1 1 [_] rfl rfl (lit_cells w3 [_] _) ?g3 ?g4 ?g5 ?g6 ?_)
          case g3 => intro u hu; rw [List.mem_singleton] at hu; subst hu; rfl
          case g4 => unfold maxLen; omega
          case g5 => omega
          case g6 => exact Nat.le_trans hz3 (by simp)
          intro v4 w4 hown4 hgrow4 _
          have HF := hide (shuffle_front (k := k) (y := _) HO3.out HR3.out hlt (by omega) HW3.out hown4 hgrow4 hxn (by omega))
          clear hown4 hgrow4
          go_wp2_with fail
          go_ret
          exact HF.out
end Go.Proofs.YtfjemnjdkniibaaDoor
