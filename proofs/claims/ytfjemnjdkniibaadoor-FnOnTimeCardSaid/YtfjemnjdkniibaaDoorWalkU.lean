/-
  The walks over FewestLate.
-/
import Derived.Test.YtfjemnjdkniibaaDoorWalkT
import Derived.Deep.AppendLies
namespace Go.Proofs.YtfjemnjdkniibaaDoor
open Go.RowKit

theorem OwnR.lt {base : Nat} {w : World} {v : Value} {xs : List Int} (h : OwnR base w v xs) : ∀ k, v.ownBlock = some k → k < w.heap.size := by
  intro k hk
  rcases h with ⟨rfl, -⟩ | h
  · simp [Value.ownBlock] at hk
  · obtain ⟨⟨g, cap, rfl⟩, -⟩ := id h
    obtain ⟨f, hr, -⟩ := h.row
    simp [Value.ownBlock] at hk
    have := hr.lt
    omega
theorem OwnR.grown {base : Nat} {w w' : World} {row : Option Nat} {v : Value} {xs : List Int} (h : OwnR base w v xs) (hg : w.grownBy w' row) (hd : ∀ k, v.ownBlock = some k → some k ≠ row) : OwnR base w' v xs := by
  have hlt := h.lt
  rcases h with h | ⟨⟨g, cap, rfl⟩, h2, h3⟩
  · exact .inl h
  · refine .inr ⟨⟨g, cap, rfl⟩, h2, ?_⟩
    rcases h3 with ⟨e, _⟩ | ⟨g', cap', cur, e, h0, h1, r⟩
    · cases e
    · refine .inr ⟨g', cap', cur, e, h0, ?_, r⟩
      simp only [Value.slice.injEq, Option.some.injEq, Addr.mk.injEq] at e
      obtain ⟨⟨rfl, -⟩, -, -⟩ := e
      rw [hg.block g (hlt g rfl) (hd g rfl)]
      exact h1

/-- Two slices of the call's own, apart. -/
structure TwoOwn (base : Nat) (w : World) (v1 : Value) (xs : List Int) (v2 : Value) (ys : List Int) : Prop where
  one : OwnR base w v1 xs
  two : OwnR base w v2 ys
  apart : ∀ k, v1.ownBlock = some k → v2.ownBlock ≠ some k
theorem TwoOwn.symm {base : Nat} {w : World} {v1 v2 : Value} {xs ys : List Int} (h : TwoOwn base w v1 xs v2 ys) : TwoOwn base w v2 ys v1 xs := ⟨h.two, h.one, fun k h2 h1 => h.apart k h1 h2⟩
theorem TwoOwn.below {base B : Nat} {w w' : World} {v1 v2 : Value} {xs ys : List Int} (h : TwoOwn base w v1 xs v2 ys) (hb : Below B w w') (hB : w.heap.size ≤ B) : TwoOwn base w' v1 xs v2 ys :=
  ⟨h.one.below hb hB, h.two.below hb hB, h.apart⟩

theorem wpList_append_two {w : World} {ops : Array Oper} {rest : List Oper} {o : Oper} {a : Act} {Q : Exit → Act → World → Prop} (hgd : o.guard = none) (s x : Operand)
    (ho : o.op = .call { callee := .builtin .append, args := #[s, x], argTypes := #[36, 36] })
    (base : Nat) (v1 v2 : Value) (xs ys : List Int) (hs : a.eval s = v1) (hk : TwoOwn base w v1 xs v2 ys) (ad : Addr) (c : Nat) (y : Int) (hx : a.eval x = .slice (some ad) 1 c)
    (hc : ∀ j u, [Value.int .i64 y][j]? = some u → w.cell? (ad.add j) = some u) (hlen : xs.length ≤ 1048576) (hb : base ≤ w.heap.size)
    (hK : ∀ v' w', TwoOwn base w' v' (xs ++ [y]) v2 ys → (∀ B a, B ≤ base → Below B a w → Below B a w') → wpList Tryd.prog ops Q rest (a.put o.dst v') w') : wpList Tryd.prog ops Q (o :: rest) a w := by
  obtain ⟨i0, hi0, hz0, hi1, hi2⟩ := info_parts info_int
  have h1 : ∀ u ∈ [Value.int .i64 y], u.oneCell' = true := by
    intro u hu
    obtain rfl := List.mem_singleton.1 hu
    rfl
  refine wpList_append_lies w hgd s x 36 ho base 3 i0 (.int .i64 0) 1 8 Tryd.underlying36 hi0 hz0 hi1 hi2 rfl (by decide) v1 xs.length _ hs hk.one.owns ad 1 c [.int .i64 y] hx rfl hc h1 (by decide) (by unfold maxLen; omega) (by omega) hb _ rfl ?_
  intro g cap w' hown hgrow hor hlt
  refine hK _ w' ⟨OwnR.of_owns hown (by simp) (by simp), hk.two.grown hgrow fun k h2 h1 => hk.apart k h1.symm h2, fun k hk1 hk2 => ?_⟩ fun B a hB ha => ha.grown hgrow (by omega) fun k hk' => Nat.le_trans hB (hk.one.block k hk')
  simp [Value.ownBlock] at hk1
  subst hk1
  rcases hor with h | h
  · exact hk.apart _ h hk2
  · have := hk.two.lt _ hk2
    omega

theorem wpList_append_join {w : World} {ops : Array Oper} {rest : List Oper} {o : Oper} {a : Act} {Q : Exit → Act → World → Prop} (hgd : o.guard = none) (s x : Operand)
    (ho : o.op = .call { callee := .builtin .append, args := #[s, x], argTypes := #[36, 36] })
    (base : Nat) (v1 v2 : Value) (xs ys : List Int) (hs : a.eval s = v1) (hk : TwoOwn base w v1 xs v2 ys) (hx : a.eval x = v2)
    (hlen : xs.length + ys.length ≤ 1048576) (hb : base ≤ w.heap.size)
    (hK : ∀ v' w', OwnR base w' v' (xs ++ ys) → (∀ B a, B ≤ base → Below B a w → Below B a w') → wpList Tryd.prog ops Q rest (a.put o.dst v') w') : wpList Tryd.prog ops Q (o :: rest) a w := by
  obtain ⟨i0, hi0, hz0, hi1, hi2⟩ := info_parts info_int
  rcases hk.two with ⟨rfl, rfl⟩ | h2
  · refine wpList_append_own_none hgd s x 36 ho base 3 i0 1 Tryd.underlying36 hi0 v1 xs.length _ hs (by have := hk.one.owns; exact this) hx (hK _ _ (by simpa using hk.one) fun _ _ _ h => h)
  · obtain ⟨⟨g, cap, rfl⟩, -⟩ := id h2
    refine wpList_append_own w hgd s x 36 ho base 3 i0 (.int .i64 0) 1 8 Tryd.underlying36 hi0 hz0 hi1 hi2 rfl (by decide) v1 xs.length _ hs hk.one.owns ⟨g, 0, none⟩ ys.length cap (ys.map (Value.int .i64)) hx (by simp) (h2.2.cells rfl) ?_ (by unfold maxLen; omega) (by omega) hb ?_
    · intro u hu
      obtain ⟨y, _, rfl⟩ := List.mem_map.1 hu
      rfl
    · intro v' w' hown hgrow _
      exact hK v' w' (OwnR.of_owns hown (by simp) (by simp)) fun B a hB ha => ha.grown hgrow (by omega) fun k hk' => Nat.le_trans hB (hk.one.block k hk')

/-- Those of the order that are kept, and the others behind them. -/
def inK (ks l : List Int) : List Int := l.filter fun a => hasI ks a
def offK (ks l : List Int) : List Int := l.filter fun a => !hasI ks a
def fewR (js : List J) : List Int := inK (onTimeR js) (orderR kDue js) ++ offK (onTimeR js) (orderR kDue js)
theorem inK_succ {ks l : List Int} {k : Nat} (h : k < l.length) : inK ks (l.take (k + 1)) = (if hasI ks l[k] then inK ks (l.take k) ++ [l[k]] else inK ks (l.take k)) ∧ offK ks (l.take (k + 1)) = (if hasI ks l[k] then offK ks (l.take k) else offK ks (l.take k) ++ [l[k]]) := by
  rw [List.take_succ_eq_append_getElem h]
  unfold inK offK
  rw [List.filter_append, List.filter_append]
  cases h2 : hasI ks l[k] <;> simp [h2]
theorem inK_len (ks l : List Int) : (inK ks l).length + (offK ks l).length = l.length := by
  unfold inK offK
  induction l with
  | nil => rfl
  | cons a l ih =>
    simp only [List.filter_cons]
    cases hasI ks a <;> simp <;> omega
theorem fewR_len (js : List J) : (fewR js).length ≤ js.length := by
  unfold fewR
  rw [List.length_append, inK_len]
  exact orderR_len kDue js

theorem order6 (K : J → J → Int) (js : List J) : (orderR K js).length ≤ 6 := by
  cases h : jsvB js with
  | true => exact Nat.le_trans (orderR_len K js) (jsvB_len h)
  | false => simp [orderR, h]

set_option maxHeartbeats 800000 in
theorem few_spec (v : Value) (js : List J) (lo hi : Nat) (w : World) (h : JobsAt lo hi w v js) :
    Calls Tryd.prog 70 #[v] w fun e w' => ∃ r, e = .returned r ∧ IntsAt w.heap.size w'.heap.size w' r (fewR js) ∧ Below w.heap.size w w' := by
  obtain ⟨ao, cap, rfl, hlc, hcap, hhi, -⟩ := id h
  have HH := hide h
  clear h
  go_enter Tryd.func70, Tryd.ntmps70
  go_wp2_with fail
  refine (onTime_spec _ js lo hi _ HH.out).mono ?_
  rintro e w1 ⟨r, rfl, hr, hb1⟩
  have H1 := hide (HH.out.below hb1)
  obtain ⟨ks, hks⟩ : ∃ ks, onTimeR js = ks := ⟨_, rfl⟩
  rw [hks] at hr
  obtain ⟨ao1, cap1, rfl, -⟩ := id hr
  have HK := hide hr
  have HKS := hide hks
  clear hr hks
  go_wp2_with fail
  refine (dueOrder_spec _ js lo hi _ H1.out).mono ?_
  rintro e w2 ⟨r, rfl, hr, hb2⟩
  obtain ⟨os, hos⟩ : ∃ os, orderR kDue js = os := ⟨_, rfl⟩
  have hj6 := order6 kDue js
  rw [hos] at hr hj6
  have hb12 : Below w.heap.size w w2 := Below.step hb1 hb2 (Nat.le_refl _)
  have hz2 : w1.heap.size ≤ w2.heap.size := hb2.size
  have hK2 := HK.out.below hb2
  have HK2 := hide hK2
  have HF := hide (show fewR js = inK ks os ++ offK ks os by unfold fewR; rw [HKS.out, hos])
  obtain ⟨ao2, cap2, rfl, hlc2, hcap2, hhi2, hc2⟩ := hr
  have Hc2 := hide hc2
  have hT0 : TwoOwn w2.heap.size ((w2.alloc (Obj.cells #[] 3)).alloc (Obj.cells #[] 3)) (.slice (some ⟨w2.heap.size, 0, none⟩) 0 0) [] (.slice (some ⟨w2.heap.size + 1, 0, none⟩) 0 0) [] := by
    have h1 := (OwnI.new w2.heap.size w2 [] (Nat.le_refl _) (by simp)).below ((Below.refl _ _).alloc (Nat.le_refl _) (Obj.cells #[] 3)) (Nat.le_refl _)
    have h2 := OwnI.new w2.heap.size (w2.alloc (Obj.cells #[] 3)) [] (by simp) (by simp)
    refine ⟨.inr (by simpa using h1), .inr (by simpa using h2), fun k h1 h2 => ?_⟩
    simp [Value.ownBlock] at h1 h2
    omega
  have HT0 := hide hT0
  clear hos hc2 hK2 hT0
  go_wp2_with fail
  go_loopw [5, 6, 7] (fun a b i wr => ∃ k : Nat, k ≤ os.length ∧ i = .int .i64 k ∧ Below w2.heap.size w2 wr ∧ TwoOwn w2.heap.size wr a (inK ks (os.take k)) b (offK ks (os.take k))) (fun _ _ i _ => os.length - (intOf i).toNat)
  case atStart => exact ⟨0, Nat.zero_le _, rfl, ((Below.refl _ _).alloc (Nat.le_refl _) _).alloc (by simp) _, by simpa [inK, offK] using HT0.out⟩
  case round =>
    obtain ⟨k, hk, rfl, hb, hown⟩ := hrel
    have hln := inK_len ks (os.take k)
    rw [List.length_take, Nat.min_eq_left hk] at hln
    have hl1 : (inK ks (os.take k)).length ≤ 6 := by omega
    have hl2 : (offK ks (os.take k)).length ≤ 6 := by omega
    have Ho := hide hown
    have HKr := hide (HK2.out.keep (Keeps.of_below hb hz2) hb.size)
    have hzr : w2.heap.size ≤ wr.heap.size := hb.size
    obtain ⟨ia, ca, ea⟩ := hown.one.shape
    obtain ⟨ib, cb, eb⟩ := hown.two.shape
    subst ea eb
    clear hown hln
    by_cases hlt : k < os.length
    · obtain ⟨b, o, rfl, hx1, hx2, hcs⟩ := Hc2.out (by omega)
      obtain ⟨r1, -⟩ := hcs k hlt
      rw [← hb.cell (p := ⟨b, _, none⟩) (by simpa using by omega)] at r1
      have hs := inK_succ (ks := ks) hlt
      obtain ⟨x, hx⟩ : ∃ x, os[k] = x := ⟨_, rfl⟩
      rw [hx] at r1 hs
      have hkI : (k : Int) < (os.length : Int) := by omega
      have hnew := OwnI.new w2.heap.size wr [x] hzr (by simp)
      have Hnew := hide hnew
      have Hoy := hide (Ho.out.below ((Below.refl wr.heap.size wr).alloc (Nat.le_refl _) (.cells #[.int .i64 x] 3)) (Nat.le_refl _))
      have hsz1 : w2.heap.size ≤ (wr.alloc (.cells #[.int .i64 x] 3)).heap.size := by simp; omega
      have HSZ := hide hsz1
      have HX := hide hx
      clear hcs hx hnew hsz1
      cases hh : hasI ks x with
      | true =>
        rw [hh] at hs
        have HS1 := hide hs.1
        have HS2 := hide hs.2
        have HHh := hide hh
        clear hh hs
        go_wp2_with fail
        refine (l1Has_any _ ks _ _ _ _ HKr.out).mono ?_
        rw [HHh.out]
        rintro e w3 ⟨rfl, rfl⟩
        go_wp2_with (at_builtin; refine wpList_append_two rfl _ _ rfl w2.heap.size _ _ (inK ks (os.take k)) _ rfl Hoy.out ⟨wr.heap.size, 0, none⟩ 1 x rfl ?c2 ?c4 HSZ.out ?_)
        case c2 => exact Hnew.out.2.cells rfl
        case c4 => omega
        intro v' w' hown2 hbel
        have hB1 : Below w2.heap.size w2 w' := hbel _ _ (Nat.le_refl _) (hb.alloc hzr _)
        have hown3 : TwoOwn w2.heap.size w' v' (inK ks (os.take (k + 1))) (.slice ib (offK ks (os.take k)).length cb) (offK ks (os.take (k + 1))) := by rw [HS1.out, HS2.out]; exact hown2
        have Hown2 := hide hown3
        clear hown2 hown3 hbel
        go_wp2_with fail
        go_roundw
        case rel => exact ⟨k + 1, by omega, by go_num, hB1, Hown2.out⟩
        case measure => simp [intOf]; omega
      | false =>
        rw [hh] at hs
        have HS1 := hide hs.1
        have HS2 := hide hs.2
        have HHh := hide hh
        clear hh hs
        go_wp2_with fail
        refine (l1Has_any _ ks _ _ _ _ HKr.out).mono ?_
        rw [HHh.out]
        rintro e w3 ⟨rfl, rfl⟩
        go_wp2_with (at_builtin; refine wpList_append_two rfl _ _ rfl w2.heap.size _ _ (offK ks (os.take k)) _ rfl Hoy.out.symm ⟨wr.heap.size, 0, none⟩ 1 x rfl ?c2 ?c4 HSZ.out ?_)
        case c2 => exact Hnew.out.2.cells rfl
        case c4 => omega
        intro v' w' hown2 hbel
        have hB1 : Below w2.heap.size w2 w' := hbel _ _ (Nat.le_refl _) (hb.alloc hzr _)
        have hown3 : TwoOwn w2.heap.size w' (.slice ia (inK ks (os.take k)).length ca) (inK ks (os.take (k + 1))) v' (offK ks (os.take (k + 1))) := by rw [HS1.out, HS2.out]; exact hown2.symm
        have Hown2 := hide hown3
        clear hown2 hown3 hbel
        go_wp2_with fail
        go_roundw
        case rel => exact ⟨k + 1, by omega, by go_num, hB1, Hown2.out⟩
        case measure => simp [intOf]; omega
    · obtain rfl : k = os.length := by omega
      rw [List.take_length] at Ho hl1 hl2 ⊢
      go_wp2_with (at_builtin; refine wpList_append_join rfl _ _ rfl w2.heap.size _ _ _ _ rfl Ho.out rfl ?c1 hzr ?_)
      case c1 => omega
      intro v' w' hown2 hbel
      have hB1 : Below w2.heap.size w2 w' := hbel _ _ (Nat.le_refl _) hb
      have Hown2 := hide hown2
      clear hown2 hbel
      go_wp2_with fail
      go_ret
      refine ⟨_, rfl, ?_, Below.step hb12 hB1 (Nat.le_refl _)⟩
      rw [HF.out]
      exact (Hown2.out.at hB1.size).mono hb12.size (Nat.le_refl _) (Nat.le_refl _)

set_option maxHeartbeats 800000 in
theorem few_impl (v : Value) (js : List J) (lo hi : Nat) (w : World) (h : JobsAt lo hi w v js) :
    Calls Tryd.prog 68 #[v] w fun e w' => ∃ r, e = .returned r ∧ IntsAt w.heap.size w'.heap.size w' r (fewR js) ∧ Below w.heap.size w w' := by
  obtain ⟨ao, cap, rfl, hlc, hcap, hhi, -⟩ := id h
  have HH := hide h
  clear h
  go_enter Tryd.func68, Tryd.ntmps68
  go_wp2_with fail
  refine (onTime_impl _ js lo hi _ HH.out).mono ?_
  rintro e w1 ⟨r, rfl, hr, hb1⟩
  have H1 := hide (HH.out.below hb1)
  obtain ⟨ks, hks⟩ : ∃ ks, onTimeR js = ks := ⟨_, rfl⟩
  rw [hks] at hr
  obtain ⟨ao1, cap1, rfl, -⟩ := id hr
  have HK := hide hr
  have HKS := hide hks
  clear hr hks
  go_wp2_with fail
  refine (dueOrder_impl _ js lo hi _ H1.out).mono ?_
  rintro e w2 ⟨r, rfl, hr, hb2⟩
  obtain ⟨os, hos⟩ : ∃ os, orderR kDue js = os := ⟨_, rfl⟩
  have hj6 := order6 kDue js
  rw [hos] at hr hj6
  have hb12 : Below w.heap.size w w2 := Below.step hb1 hb2 (Nat.le_refl _)
  have hz2 : w1.heap.size ≤ w2.heap.size := hb2.size
  have hK2 := HK.out.below hb2
  have HK2 := hide hK2
  have HF := hide (show fewR js = inK ks os ++ offK ks os by unfold fewR; rw [HKS.out, hos])
  obtain ⟨ao2, cap2, rfl, hlc2, hcap2, hhi2, hc2⟩ := hr
  have Hc2 := hide hc2
  have hT0 : TwoOwn w2.heap.size w2 (.slice none 0 0) [] (.slice none 0 0) [] := ⟨.inl ⟨rfl, rfl⟩, .inl ⟨rfl, rfl⟩, fun k h1 _ => by simp [Value.ownBlock] at h1⟩
  have HT0 := hide hT0
  clear hos hc2 hK2 hT0
  go_wp2_with fail
  go_loopw [4, 5, 7, 13] (fun a b _ i wr => ∃ k : Nat, k ≤ os.length ∧ i = .int .i64 k ∧ Below w2.heap.size w2 wr ∧ TwoOwn w2.heap.size wr a (inK ks (os.take k)) b (offK ks (os.take k))) (fun _ _ _ i _ => os.length - (intOf i).toNat)
  case atStart => exact ⟨0, Nat.zero_le _, rfl, Below.refl _ _, by simpa [inK, offK] using HT0.out⟩
  case round =>
    obtain ⟨k, hk, rfl, hb, hown⟩ := hrel
    have hln := inK_len ks (os.take k)
    rw [List.length_take, Nat.min_eq_left hk] at hln
    have hl1 : (inK ks (os.take k)).length ≤ 6 := by omega
    have hl2 : (offK ks (os.take k)).length ≤ 6 := by omega
    have Ho := hide hown
    have HKr := hide (HK2.out.keep (Keeps.of_below hb hz2) hb.size)
    have hzr : w2.heap.size ≤ wr.heap.size := hb.size
    obtain ⟨ia, ca, ea⟩ := hown.one.shape
    obtain ⟨ib, cb, eb⟩ := hown.two.shape
    subst ea eb
    clear hown hln
    by_cases hlt : k < os.length
    · obtain ⟨b, o, rfl, hx1, hx2, hcs⟩ := Hc2.out (by omega)
      obtain ⟨r1, -⟩ := hcs k hlt
      rw [← hb.cell (p := ⟨b, _, none⟩) (by simpa using by omega)] at r1
      have hs := inK_succ (ks := ks) hlt
      obtain ⟨x, hx⟩ : ∃ x, os[k] = x := ⟨_, rfl⟩
      rw [hx] at r1 hs
      have hkI : (k : Int) < (os.length : Int) := by omega
      have hnew := OwnI.new w2.heap.size wr [x] hzr (by simp)
      have Hnew := hide hnew
      have Hoy := hide (Ho.out.below ((Below.refl wr.heap.size wr).alloc (Nat.le_refl _) (.cells #[.int .i64 x] 3)) (Nat.le_refl _))
      have hsz1 : w2.heap.size ≤ (wr.alloc (.cells #[.int .i64 x] 3)).heap.size := by simp; omega
      have HSZ := hide hsz1
      have HX := hide hx
      clear hcs hx hnew hsz1
      cases hh : hasI ks x with
      | true =>
        rw [hh] at hs
        have HS1 := hide hs.1
        have HS2 := hide hs.2
        have HHh := hide hh
        clear hh hs
        go_wp2_with fail
        refine (contains_any _ ks _ _ _ _ HKr.out).mono ?_
        rw [HHh.out]
        rintro e w3 ⟨rfl, rfl⟩
        go_wp2_with (at_builtin; refine wpList_append_two rfl _ _ rfl w2.heap.size _ _ (inK ks (os.take k)) _ rfl Hoy.out ⟨wr.heap.size, 0, none⟩ 1 x rfl ?c2 ?c4 HSZ.out ?_)
        case c2 => exact Hnew.out.2.cells rfl
        case c4 => omega
        intro v' w' hown2 hbel
        have hB1 : Below w2.heap.size w2 w' := hbel _ _ (Nat.le_refl _) (hb.alloc hzr _)
        have hown3 : TwoOwn w2.heap.size w' v' (inK ks (os.take (k + 1))) (.slice ib (offK ks (os.take k)).length cb) (offK ks (os.take (k + 1))) := by rw [HS1.out, HS2.out]; exact hown2
        have Hown2 := hide hown3
        clear hown2 hown3 hbel
        go_wp2_with fail
        go_roundw
        case rel => exact ⟨k + 1, by omega, by go_num, hB1, Hown2.out⟩
        case measure => simp [intOf]; omega
      | false =>
        rw [hh] at hs
        have HS1 := hide hs.1
        have HS2 := hide hs.2
        have HHh := hide hh
        clear hh hs
        go_wp2_with fail
        refine (contains_any _ ks _ _ _ _ HKr.out).mono ?_
        rw [HHh.out]
        rintro e w3 ⟨rfl, rfl⟩
        go_wp2_with (at_builtin; refine wpList_append_two rfl _ _ rfl w2.heap.size _ _ (offK ks (os.take k)) _ rfl Hoy.out.symm ⟨wr.heap.size, 0, none⟩ 1 x rfl ?c2 ?c4 HSZ.out ?_)
        case c2 => exact Hnew.out.2.cells rfl
        case c4 => omega
        intro v' w' hown2 hbel
        have hB1 : Below w2.heap.size w2 w' := hbel _ _ (Nat.le_refl _) (hb.alloc hzr _)
        have hown3 : TwoOwn w2.heap.size w' (.slice ia (inK ks (os.take k)).length ca) (inK ks (os.take (k + 1))) v' (offK ks (os.take (k + 1))) := by rw [HS1.out, HS2.out]; exact hown2.symm
        have Hown2 := hide hown3
        clear hown2 hown3 hbel
        go_wp2_with fail
        go_roundw
        case rel => exact ⟨k + 1, by omega, by go_num, hB1, Hown2.out⟩
        case measure => simp [intOf]; omega
    · obtain rfl : k = os.length := by omega
      rw [List.take_length] at Ho hl1 hl2 ⊢
      go_wp2_with (at_builtin; refine wpList_append_join rfl _ _ rfl w2.heap.size _ _ _ _ rfl Ho.out rfl ?c1 hzr ?_)
      case c1 => omega
      intro v' w' hown2 hbel
      have hB1 : Below w2.heap.size w2 w' := hbel _ _ (Nat.le_refl _) hb
      have Hown2 := hide hown2
      clear hown2 hbel
      go_wp2_with fail
      go_ret
      refine ⟨_, rfl, ?_, Below.step hb12 hB1 (Nat.le_refl _)⟩
      rw [HF.out]
      exact (Hown2.out.at hB1.size).mono hb12.size (Nat.le_refl _) (Nat.le_refl _)
end Go.Proofs.YtfjemnjdkniibaaDoor
