/-
  The walks over slices.Sort of at most 6 ints.
-/
import Derived.Test.YtfjemnjdkniibaaDoorWalkQ
namespace Go.Proofs.YtfjemnjdkniibaaDoor
open Go.RowKit

theorem isNaN_int (a : Int) (w : World) :
    Calls Tryd.prog 123 #[.int .i64 a] w fun e w' => e = .returned (.bool false) ∧ w = w' := by
  go_enter Tryd.func123, Tryd.ntmps123
  go_wp2_with fail
  go_ret
  exact ⟨by first | rfl | simp, rfl⟩

theorem less_int (a b : Int) (w : World) :
    Calls Tryd.prog 110 #[.int .i64 a, .int .i64 b] w fun e w' => e = .returned (.bool (decide (a < b))) ∧ w = w' := by
  go_enter Tryd.func110, Tryd.ntmps110
  go_wp2_with fail
  refine (isNaN_int _ _).mono ?_
  rintro e w' ⟨rfl, rfl⟩
  go_wp2_with fail
  go_ret
  exact ⟨by first | rfl | simp, rfl⟩

set_option maxHeartbeats 400000 in
set_option maxRecDepth 100000 in
theorem len64_few (n : Nat) (hn : n ≤ 6) (w : World) :
    Calls Tryd.prog 114 #[.int .u64 n] w fun e w' => ∃ z, e = .returned (.int .i64 z) ∧ w = w' := by
  have : n = 0 ∨ n = 1 ∨ n = 2 ∨ n = 3 ∨ n = 4 ∨ n = 5 ∨ n = 6 := by omega
  rcases this with rfl | rfl | rfl | rfl | rfl | rfl | rfl
  all_goals
    go_enter Tryd.func114, Tryd.ntmps114
    go_wp2_with fail
    go_ret
    exact ⟨_, rfl, rfl⟩

theorem len_few (n : Nat) (hn : n ≤ 6) (w : World) :
    Calls Tryd.prog 101 #[.int .u64 n] w fun e w' => ∃ z, e = .returned (.int .i64 z) ∧ w = w' := by
  have HL := hide (len64_few n hn w)
  go_enter Tryd.func101, Tryd.ntmps101
  go_wp2_with fail
  refine HL.out.mono ?_
  rintro e w' ⟨z, rfl, rfl⟩
  go_wp2_with fail
  go_ret
  exact ⟨_, rfl, rfl⟩

theorem insert_le {A B : List Int} {x : Int} (h : (A ++ B).Pairwise (· ≤ ·)) (hB : ∀ b ∈ B, x < b) (hl : ∀ a, A.getLast? = some a → ¬ x < a) : (A ++ x :: B).Pairwise (· ≤ ·) := by
  rw [List.pairwise_append] at h ⊢
  obtain ⟨h1, h2, h3⟩ := h
  have hAx : ∀ a ∈ A, a ≤ x := by
    intro a ha
    rcases eq_nil_or_end A with rfl | ⟨A', l, rfl⟩
    · cases ha
    · have hlx := hl l (by simp)
      rcases List.mem_append.1 ha with h | h
      · have := (List.pairwise_append.1 h1).2.2 a h l (by simp)
        omega
      · rw [List.mem_singleton] at h; omega
  refine ⟨h1, List.pairwise_cons.2 ⟨fun b hb => Int.le_of_lt (hB b hb), h2⟩, ?_⟩
  intro a ha b hb
  rcases List.mem_cons.1 hb with rfl | hb
  · exact hAx a ha
  · exact h3 a ha b hb

theorem insO_close {cur xs A B : List Int} {k n : Nat} (hk : k < n) (hlen : cur.length = n) (hp : cur.Perm xs) (hAB : cur.take k = A ++ B) (hs : (cur.take k).Pairwise (· ≤ ·))
    (hB : ∀ b ∈ B, cur.getD k 0 < b) (hl : ∀ a, A.getLast? = some a → ¬ cur.getD k 0 < a) :
    ((A ++ cur.getD k 0 :: B) ++ cur.drop (k + 1)).length = n ∧ ((A ++ cur.getD k 0 :: B) ++ cur.drop (k + 1)).Perm xs ∧ (((A ++ cur.getD k 0 :: B) ++ cur.drop (k + 1)).take (k + 1)).Pairwise (· ≤ ·) := by
  have hkl : k < cur.length := by omega
  have hgd : cur.getD k 0 = cur[k] := by simp [hkl]
  have hL : A.length + B.length = k := by
    have := congrArg List.length hAB
    simp at this; omega
  have hT : ((A ++ cur.getD k 0 :: B) ++ cur.drop (k + 1)).take (k + 1) = A ++ cur.getD k 0 :: B := by
    rw [List.take_append_of_le_length (by simp; omega), List.take_of_length_le (by simp; omega)]
  refine ⟨by simp; omega, ?_, ?_⟩
  · refine List.Perm.trans ?_ hp
    have hc : cur = (A ++ B) ++ cur[k] :: cur.drop (k + 1) := by
      rw [← hAB, ← List.drop_eq_getElem_cons hkl, List.take_append_drop]
    rw [hgd]
    conv => rhs; rw [hc]
    rw [List.append_assoc, List.append_assoc]
    refine List.Perm.append_left A ?_
    rw [List.cons_append]
    exact List.perm_middle.symm
  · rw [hT]
    exact insert_le (by rw [← hAB]; exact hs) hB hl

set_option linter.unusedSimpArgs false in
set_option maxHeartbeats 1600000 in
theorem insOrd_any (g N n cap : Nat) (xs : List Int) (f : Nat → Value) (w : World) (hx : xs.length = n) (hnN : n ≤ N) (hn6 : n ≤ 6) (hcap : n ≤ cap) (hn1 : 1 ≤ n)
    (hr : w.rowIs g 3 N (fun j => if j < n then .int .i64 (xs.getD j 0) else f j)) :
    Calls Tryd.prog 104 #[.slice (some ⟨g, 0, none⟩) n cap, .int .i64 0, .int .i64 n] w fun e w' =>
      e = .returned (.tuple #[]) ∧ Other g (g + 1) w w' ∧ ∃ ys : List Int, ys.Perm xs ∧ ys.Pairwise (· ≤ ·) ∧ w'.rowIs g 3 N (fun j => if j < n then .int .i64 (ys.getD j 0) else f j) := by
  have Hr0 := hide hr
  have Hx := hide hx
  clear hr hx
  go_enter Tryd.func104, Tryd.ntmps104
  go_wp2_with fail
  go_loopw [6] (fun i wr => ∃ (k : Nat) (cur : List Int), 1 ≤ k ∧ k ≤ n ∧ i = .int .i64 k ∧ Other g (g + 1) w wr ∧ cur.length = n ∧ wr.rowIs g 3 N (fun j => if j < n then .int .i64 (cur.getD j 0) else f j) ∧
      (cur.take k).Pairwise (· ≤ ·) ∧ cur.Perm xs) (fun i _ => n - (intOf i).toNat)
  case atStart =>
    refine ⟨1, xs, Nat.le_refl _, hn1, rfl, Other.refl _ _ _, Hx.out, Hr0.out, ?_, List.Perm.refl _⟩
    match xs with
    | [] => simp
    | x :: r => simp
  case round =>
    obtain ⟨k, cur, hk1, hk, rfl, ho, hlen, hrow, hsort, hperm⟩ := hrel
    obtain ⟨wo, rfl⟩ : ∃ wo : World, wo = wr := ⟨_, rfl⟩
    have Hrow := hide hrow
    have Hlen := hide hlen
    have Hsort := hide hsort
    have Hperm := hide hperm
    clear hrow hlen hsort hperm
    by_cases hlt : k < n
    · go_wp2_with fail
      go_loopw [7] (fun i wx => ∃ (A B : List Int) (jj : Int), cur.take k = A ++ B ∧ i = .int .i64 jj ∧ jj = (A.length : Int) ∧ (∀ b ∈ B, cur.getD k 0 < b) ∧ Other g (g + 1) w wx ∧ wx.rowIs g 3 N (fun j => if j < n then .int .i64 (((A ++ cur.getD k 0 :: B) ++ cur.drop (k + 1)).getD j 0) else f j)) (fun i _ => (intOf i).toNat)
      case atStart =>
        have hkl : k < cur.length := by rw [Hlen.out]; exact hlt
        refine ⟨cur.take k, [], (k : Int), by simp, rfl, by simp; rw [Hlen.out]; omega, by simp, ho, Hrow.out.congr fun i hi => ?_⟩
        have : (cur.take k ++ [cur.getD k 0]) ++ cur.drop (k + 1) = cur := by
          rw [show cur.getD k 0 = cur[k] by simp [hkl], ← List.take_succ_eq_append_getElem hkl, List.take_append_drop]
        rw [this]
      case round =>
        obtain ⟨A, B, jj, hAB, rfl, hjj, hB, hox, hrowx⟩ := hrel
        have HAB := hide hAB
        have HB := hide hB
        have Hrx := hide hrowx
        clear hAB hB hrowx
        rcases eq_nil_or_end A with rfl | ⟨A', l, rfl⟩
        · have hj0 : jj = 0 := by simpa using hjj
          have hz : decide (jj > 0) = false := by simp [hj0]
          clear hj0 hjj
          go_wp2_with fail
          go_quiet (fail)
          go_wp2_with fail
          obtain ⟨c1, c2, c3⟩ := insO_close hlt Hlen.out Hperm.out HAB.out Hsort.out HB.out (by simp)
          exact ⟨⟨k + 1, ([] ++ cur.getD k 0 :: B) ++ cur.drop (k + 1), by omega, by omega, by go_num, other_drewN hox _, c1, Hrx.out, c3, c2⟩, by simp [intOf]; omega⟩
        · obtain ⟨x, hxk⟩ : ∃ x, cur.getD k 0 = x := ⟨_, rfl⟩
          have HXK := hide hxk
          rw [hxk] at HB Hrx
          clear hxk
          have hq : A'.length < k := by
            have := congrArg List.length HAB.out
            simp at this; omega
          obtain ⟨q, hqA⟩ : ∃ q : Nat, q = A'.length := ⟨_, rfl⟩
          obtain ⟨p, hpq⟩ : ∃ p : Nat, p = q + 1 := ⟨_, rfl⟩
          have hp2 : p < n := by omega
          have hq2 : q < n := by omega
          have g1 := Hrx.out.cell (i := p) (by omega)
          have g2 := Hrx.out.cell (i := q) (by omega)
          have f1 := Hrx.out.frozen p
          have f2 := Hrx.out.frozen q
          rw [if_pos hp2, hpq, hqA, getD_ins1, ← hqA, ← hpq] at g1
          rw [if_pos hq2, hqA, getD_ins2, ← hqA] at g2
          obtain rfl : jj = (p : Int) := by rw [hjj, hpq, hqA]; simp
          have hz : decide (0 < p) = true := by simp; omega
          have hw : IntKind.i64.wrap ((p : Int) - 1) = (q : Int) := by rw [IntWalk.i64_in] <;> omega
          have hpjI : (p : Int) < (n : Int) := by omega
          have hqjI : (q : Int) < (n : Int) := by omega
          have HPQ := hide hpq
          have HQA := hide hqA
          clear hpq hqA hjj
          by_cases hneg : x < l
          · have hnB : decide (x < l) = true := by simp [hneg]
            have HN := hide hneg
            clear hneg
            go_wp2_with fail
            go_quiet ((go_at_call 110; exact quiet_left (less_int _ _ _)))
            have hpq : p ≠ q := by have := HPQ.out; omega
            have hrn : (wr.drewN (nq + 1)).rowIs g 3 N (fun j => if j < n then .int .i64 ((((A' ++ [l]) ++ x :: B) ++ cur.drop (k + 1)).getD j 0) else f j) := Hrx.out
            have hon := other_drewN hox (nq + 1)
            have e1 := (hrn.set p (.int .i64 l)).cell (i := q) (by omega)
            have e2 := (hrn.set q (.int .i64 x)).cell (i := p) (by omega)
            have e3 := (hrn.set p (.int .i64 l)).frozen q
            have e4 := (hrn.set q (.int .i64 x)).frozen p
            have HRN := hide hrn
            clear hrn
            rw [if_neg hpq.symm, if_pos hq2, HQA.out, getD_ins2, ← HQA.out] at e1
            rw [if_neg hpq, if_pos hp2, HPQ.out, HQA.out, getD_ins1, ← HQA.out, ← HPQ.out] at e2
            have HNE := hide hpq
            clear hpq
            go_wp2_with fail
            go_region
            all_goals (go_wp2_with fail)
            all_goals clear e1 e2 e3 e4 g1 g2 f1 f2 hw
            all_goals
              refine ⟨⟨A', l :: B, (q : Int), by rw [HAB.out]; simp, rfl, by rw [HQA.out], ?_, ?_, ?_⟩, by have := HPQ.out; simp [intOf]; omega⟩
            all_goals first
              | (intro b hb; rw [HXK.out]; rcases List.mem_cons.1 hb with rfl | hb; exact HN.out; exact HB.out b hb)
              | exact ((hon.setCell (Nat.le_refl _) (Nat.lt_succ_self _) _).setCell (Nat.le_refl _) (Nat.lt_succ_self _) _)
              | (refine (((HRN.out.set _ _).set _ _).congr fun i hi => ?_)
                 have h1 := HPQ.out
                 have h2 := HQA.out
                 have h3 := HNE.out
                 rw [HXK.out, swap_ins, ← h2, ← h1]
                 by_cases e1 : i = q
                 · simp [e1, h3, h3.symm, hq2]
                 · by_cases e2 : i = p
                   · simp [e1, e2, h3, h3.symm, hp2]
                   · simp [e1, e2])
          · have hnB : decide (x < l) = false := by simp [hneg]
            have HN := hide hneg
            clear hneg
            go_wp2_with fail
            go_quiet ((go_at_call 110; exact quiet_left (less_int _ _ _)))
            go_wp2_with fail
            obtain ⟨c1, c2, c3⟩ := insO_close hlt Hlen.out Hperm.out HAB.out Hsort.out (by rw [HXK.out]; exact HB.out) (by rw [HXK.out]; simp; exact HN.out)
            rw [HXK.out] at c1 c2 c3
            exact ⟨⟨k + 1, ((A' ++ [l]) ++ x :: B) ++ cur.drop (k + 1), by omega, by omega, by go_num, other_drewN hox _, c1, Hrx.out, c3, c2⟩, by simp [intOf]; omega⟩
    · obtain rfl : k = n := by omega
      go_wp2_with fail
      go_end0
      exact ⟨rfl, ho, cur, Hperm.out, by have := Hsort.out; rwa [List.take_of_length_le (by rw [Hlen.out]; omega)] at this, Hrow.out⟩

set_option maxHeartbeats 400000 in
theorem insOrd_zero (v : Value) (w : World) :
    Calls Tryd.prog 104 #[v, .int .i64 0, .int .i64 0] w fun e w' => e = .returned (.tuple #[]) ∧ w' = w := by
  go_enter Tryd.func104, Tryd.ntmps104
  go_wp2_with fail
  go_loop [6] (fun i => i = .int .i64 1) (fun i => 0)
  case atStart => rfl
  case round =>
    obtain rfl := hrel
    go_wp2_with fail
    go_end0
    exact ⟨rfl, rfl⟩

/-- A slice of ints of the call's own, or nil. -/
def OwnR (base : Nat) (w : World) (v : Value) (xs : List Int) : Prop := (v = .slice none 0 0 ∧ xs = []) ∨ OwnI base w v xs
theorem OwnR.below {base B : Nat} {w w' : World} {v : Value} {xs : List Int} (h : OwnR base w v xs) (hb : Below B w w') (hB : w.heap.size ≤ B) : OwnR base w' v xs :=
  h.imp id fun h => h.below hb hB
theorem OwnR.at {base : Nat} {w : World} {v : Value} {xs : List Int} (h : OwnR base w v xs) (hb : base ≤ w.heap.size) : IntsAt base w.heap.size w v xs := by
  rcases h with ⟨rfl, rfl⟩ | h
  · have := hb
    exact ⟨none, 0, rfl, by simp, by simp, Nat.le_refl _, fun h => absurd h (by simp)⟩
  · exact h.at
theorem OwnR.owns {base : Nat} {w : World} {v : Value} {xs : List Int} (h : OwnR base w v xs) : w.ownsRow base 3 1 v xs.length (xs.map (Value.int .i64)) := by
  rcases h with ⟨rfl, rfl⟩ | h
  · exact ⟨by simp, .inl ⟨rfl, rfl⟩⟩
  · exact h.2
/-- What the insertion leaves behind. -/
def Sorted1 (base : Nat) (w w' : World) (v : Value) (xs : List Int) : Prop := Below base w w' ∧ ∃ ys : List Int, ys.Perm xs ∧ ys.Pairwise (· ≤ ·) ∧ OwnR base w' v ys

theorem insOrd_own (base : Nat) (v : Value) (xs : List Int) (w : World) (h : OwnR base w v xs) (h6 : xs.length ≤ 6) (hb : base ≤ w.heap.size) :
    Calls Tryd.prog 104 #[v, .int .i64 0, .int .i64 xs.length] w fun e w' => e = .returned (.tuple #[]) ∧ Sorted1 base w w' v xs := by
  by_cases hn : xs.length = 0
  · rw [hn]
    obtain rfl := List.length_eq_zero_iff.1 hn
    refine (insOrd_zero v w).mono ?_
    rintro e w' ⟨rfl, rfl⟩
    exact ⟨rfl, Below.refl _ _, [], List.Perm.refl _, List.Pairwise.nil, h⟩
  · rcases h with ⟨rfl, rfl⟩ | h
    · exact absurd rfl hn
    · obtain ⟨⟨g, cap, rfl⟩, -⟩ := id h
      obtain ⟨f, hr, hf, hbg, -, hl, hm⟩ := h.row
      refine (insOrd_any g cap xs.length cap xs f w rfl hl h6 hl (by omega) (hr.congr fun i hi => ?_)).mono ?_
      · by_cases e : i < xs.length
        · rw [if_pos e, hf i e]; simp [e]
        · rw [if_neg e]
      · rintro e w' ⟨rfl, ho, ys, hp, hs, hr'⟩
        have hyl := hp.length_eq
        refine ⟨rfl, ho.below hbg hb, ys, hp, hs, .inr ?_⟩
        have := OwnI.of_row (base := base) (xs := ys) hr' (fun i hi => ?_) hbg (by omega) hm
        · rw [hyl] at this; exact this
        · rw [if_pos (by omega)]; simp [hi]

set_option maxHeartbeats 400000 in
theorem pdq_own (base : Nat) (v : Value) (xs : List Int) (z : Value) (w : World) (h : OwnR base w v xs) (h6 : xs.length ≤ 6) (hb : base ≤ w.heap.size) :
    Calls Tryd.prog 100 #[v, .int .i64 0, .int .i64 xs.length, z] w fun e w' => e = .returned (.tuple #[]) ∧ Sorted1 base w w' v xs := by
  have HI := hide (insOrd_own base v xs w h h6 hb)
  clear h
  have h6I : (xs.length : Int) ≤ 6 := by omega
  go_enter Tryd.func100, Tryd.ntmps100
  go_wp2_with fail
  go_loopw [1, 2, 3, 8, 9] (fun a b l x y wr => a = .int .i64 0 ∧ b = .int .i64 xs.length ∧ l = z ∧ x = .bool true ∧ y = .bool true ∧ wr = w) (fun _ _ _ _ _ _ => 0)
  case atStart => exact ⟨rfl, rfl, rfl, rfl, rfl, rfl⟩
  case round =>
    obtain ⟨rfl, rfl, rfl, rfl, rfl, rfl⟩ := hrel
    go_wp2_with fail
    refine HI.out.mono ?_
    rintro e w' ⟨rfl, hs⟩
    have HS := hide hs
    clear hs
    go_wp2_with fail
    refine bodyPost_ret (results_none rfl _ _ _) rfl ?_
    exact ⟨rfl, HS.out⟩

theorem sort_own (base : Nat) (v : Value) (xs : List Int) (w : World) (h : OwnR base w v xs) (h6 : xs.length ≤ 6) (hb : base ≤ w.heap.size) :
    Calls Tryd.prog 93 #[v] w fun e w' => e = .returned (.tuple #[]) ∧ Sorted1 base w w' v xs := by
  have HI := hide (fun z => pdq_own base v xs z w h h6 hb)
  obtain ⟨ao, cap, rfl, h1, h2, -, -⟩ := h.at hb
  have HL := hide (fun w => len_few xs.length h6 w)
  clear h
  go_enter Tryd.func93, Tryd.ntmps93
  go_wp2_with fail
  refine (HL.out w).mono ?_
  rintro e w' ⟨z, rfl, rfl⟩
  go_wp2_with fail
  refine (HI.out _).mono ?_
  rintro e w' ⟨rfl, hs⟩
  have HS := hide hs
  clear hs
  go_wp2_with fail
  go_end0
  exact ⟨rfl, HS.out⟩
end Go.Proofs.YtfjemnjdkniibaaDoor
