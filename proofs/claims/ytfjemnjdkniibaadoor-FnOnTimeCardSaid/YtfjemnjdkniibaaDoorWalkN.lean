/-
  The walks over slices.SortStableFunc (at most 6 ints, by a comparison) and jobOrder.
-/
import Derived.Test.YtfjemnjdkniibaaDoorWalkM
namespace Go.Proofs.YtfjemnjdkniibaaDoor
open Go.RowKit

set_option maxHeartbeats 400000 in
theorem insertion_zero (g : Nat) (fv : Value) (w : World) :
    Calls Tryd.prog 116 #[.slice (some ⟨g, 0, none⟩) 0 0, .int .i64 0, .int .i64 0, fv] w fun e w' => e = .returned (.tuple #[]) ∧ w' = w := by
  go_enter Tryd.func116, Tryd.ntmps116
  go_wp2_with fail
  go_loop [8] (fun i => i = .int .i64 1) (fun i => 0)
  case atStart => rfl
  case round =>
    obtain rfl := hrel
    go_wp2_with fail
    go_end0
    exact ⟨rfl, rfl⟩

theorem insertion_all {c : Nat} {K : J → J → Int} (hc : Compares c K) (hC : Cmp K fun j => jvB j = true) (v : Value) (js : List J) (lo hi pc pl g : Nat) (w : World) (h : CmpEnv c v js lo hi pc pl g w) (hv : jsvB js = true)
    (hr : w.rowIs g 3 js.length (fun j => .int .i64 (j : Int))) :
    Calls Tryd.prog 116 #[.slice (some ⟨g, 0, none⟩) js.length js.length, .int .i64 0, .int .i64 js.length, .func (.func 99) #[] #[.pointer (some ⟨pc, 0, none⟩), .pointer (some ⟨pl, 0, none⟩)]] w fun e w' =>
      e = .returned (.tuple #[]) ∧ Other g (g + 1) w w' ∧ w'.rowIs g 3 js.length (fun j => .int .i64 ((soTo K js js.length).getD j 0)) := by
  by_cases hn : 0 < js.length
  · exact insertion_any hc hC v js lo hi pc pl g w h hv hn hr
  · have e0 : js.length = 0 := by omega
    rw [e0] at hr ⊢
    refine (insertion_zero g _ w).mono ?_
    rintro e w' ⟨rfl, rfl⟩
    exact ⟨rfl, Other.refl _ _ _, hr.congr fun i hi => absurd hi (Nat.not_lt_zero _)⟩

set_option maxHeartbeats 400000 in
theorem stable_any {c : Nat} {K : J → J → Int} (hc : Compares c K) (hC : Cmp K fun j => jvB j = true) (v : Value) (js : List J) (lo hi pc pl g : Nat) (w : World) (h : CmpEnv c v js lo hi pc pl g w) (hv : jsvB js = true)
    (hr : w.rowIs g 3 js.length (fun j => .int .i64 (j : Int))) :
    Calls Tryd.prog 103 #[.slice (some ⟨g, 0, none⟩) js.length js.length, .int .i64 js.length, .func (.func 99) #[] #[.pointer (some ⟨pc, 0, none⟩), .pointer (some ⟨pl, 0, none⟩)]] w fun e w' =>
      e = .returned (.tuple #[]) ∧ Other g (g + 1) w w' ∧ w'.rowIs g 3 js.length (fun j => .int .i64 ((soTo K js js.length).getD j 0)) := by
  have hl := jsvB_len hv
  have HI := hide (insertion_all hc hC v js lo hi pc pl g w h hv hr)
  clear hc hC h hv hr
  go_enter Tryd.func103, Tryd.ntmps103
  go_wp2_with fail
  go_loop [7, 8] (fun a b => a = .int .i64 0 ∧ b = .int .i64 20) (fun _ _ => 0)
  case atStart => exact ⟨rfl, rfl⟩
  case round =>
    obtain ⟨rfl, rfl⟩ := hrel
    go_wp2_with fail
    refine HI.out.mono ?_
    rintro e w' ⟨rfl, ho, hr⟩
    have HR := hide hr
    clear hr
    go_wp2_with fail
    go_loop [6, 7, 8, 9] (fun a b c d => a = .int .i64 20) (fun _ _ _ _ => 0)
    case atStart => rfl
    case round =>
      obtain rfl := hrel
      go_wp2_with fail
      go_end0
      exact ⟨rfl, ho, HR.out⟩

set_option maxHeartbeats 400000 in
theorem sortStable_any {c : Nat} {K : J → J → Int} (hc : Compares c K) (hC : Cmp K fun j => jvB j = true) (v : Value) (js : List J) (lo hi pc pl g : Nat) (w : World) (h : CmpEnv c v js lo hi pc pl g w) (hv : jsvB js = true)
    (hr : w.rowIs g 3 js.length (fun j => .int .i64 (j : Int))) :
    Calls Tryd.prog 98 #[.slice (some ⟨g, 0, none⟩) js.length js.length, .func (.func 99) #[] #[.pointer (some ⟨pc, 0, none⟩), .pointer (some ⟨pl, 0, none⟩)]] w fun e w' =>
      e = .returned (.tuple #[]) ∧ Other g (g + 1) w w' ∧ w'.rowIs g 3 js.length (fun j => .int .i64 ((soTo K js js.length).getD j 0)) := by
  have hl := jsvB_len hv
  have HI := hide (stable_any hc hC v js lo hi pc pl g w h hv hr)
  clear hc hC h hv hr
  go_enter Tryd.func98, Tryd.ntmps98
  go_wp2_with fail
  refine HI.out.mono ?_
  rintro e w' ⟨rfl, ho, hr⟩
  have HR := hide hr
  clear hr
  go_wp2_with fail
  go_end0
  exact ⟨rfl, ho, HR.out⟩


set_option maxHeartbeats 400000 in
/-- jobOrder, whatever the comparison. -/
theorem jobOrder_any {c : Nat} {K : J → J → Int} (hc : Compares c K) (hC : Cmp K fun j => jvB j = true) (v : Value) (js : List J) (lo hi : Nat) (w : World) (h : JobsAt lo hi w v js) :
    Calls Tryd.prog 87 #[v, .func (.func c) #[] #[]] w fun e w' => ∃ r, e = .returned r ∧ IntsAt w.heap.size w'.heap.size w' r (orderR K js) ∧ Below w.heap.size w w' := by
  obtain ⟨ao, cap, rfl, hlc, hcap, hhi, hcc⟩ := id h
  have HH := hide h
  have HC := hide hc
  have HCm := hide hC
  clear h hcc hc hC
  have hmk := fun (hl : js.length ≤ 6) W => make_rowN (P := Tryd.prog) 36 3 _ _ _ Tryd.underlying36 info_int .i64 .i64 js.length (by omega) (by omega) W
  go_enter Tryd.func87, Tryd.ntmps87
  go_wp2_with fail
  obtain ⟨wx, hwx⟩ : ∃ wx, wx = (w.alloc (Obj.cells #[Value.slice ao js.length cap] 29)).alloc (Obj.cells #[Value.func (Fn.func c) #[] #[]] 66) := ⟨_, rfl⟩
  rw [← hwx]
  have hbx : Below w.heap.size w wx := by rw [hwx]; exact ((Below.refl _ _).alloc (Nat.le_refl _) _).alloc (by simp) _
  have hsx : wx.heap.size = w.heap.size + 2 := by rw [hwx]; simp
  have rl : wx.rowIs w.heap.size 29 1 (fun _ => Value.slice ao js.length cap) := by
    rw [hwx]
    exact (World.rowIs_alloc w #[Value.slice ao js.length cap] _ (fun _ => Value.slice ao js.length cap) (by simp)).alloc _
  have rc : wx.rowIs (w.heap.size + 1) 66 1 (fun _ => Value.func (Fn.func c) #[] #[]) := by
    rw [hwx]
    have := World.rowIs_alloc (w.alloc (Obj.cells #[Value.slice ao js.length cap] 29)) #[Value.func (Fn.func c) #[] #[]] 66 (fun _ => Value.func (Fn.func c) #[] #[]) (by simp)
    simpa using this
  have HX := hide (HH.out.below hbx)
  clear hwx
  refine (jsv_impl _ js lo hi _ HX.out).mono ?_
  rintro e w1 ⟨rfl, hb1⟩
  have hbw : Below w.heap.size w w1 := Below.step hbx hb1 (Nat.le_refl _)
  have hz := hbw.size
  have rl1 := rowIs_below rl hb1 (by omega)
  have rc1 := rowIs_below rc hb1 (by omega)
  have hz1 := hb1.size
  have H1 := hide (HX.out.below hb1)
  have RL := hide rl1
  have RC := hide rc1
  clear rl rc rl1 rc1
  rcases hv : jsvB js with - | -
  · have HV := hide hv
    clear hv hmk
    go_wp2_with fail
    go_ret
    refine ⟨_, rfl, ?_, hbw⟩
    simpa [orderR, HV.out] using (IntsAt.nil w.heap.size w1 none)
  · have hl := jsvB_len hv
    have HV := hide hv
    clear hv
    replace hmk := hmk hl
    have cl := RL.out.cell (i := 0) (by omega)
    have cc := RC.out.cell (i := 0) (by omega)
    go_wp2_with fail
    clear hmk
    go_loopw [6, 15] (fun _ i wr => ∃ k : Nat, k ≤ js.length ∧ i = .int .i64 k ∧ Below w1.heap.size w1 wr ∧ wr.rowIs w1.heap.size 3 js.length (fun j => .int .i64 (if j < k then (j : Int) else 0))) (fun _ i _ => js.length - (intOf i).toNat)
    case atStart =>
      refine ⟨0, Nat.zero_le _, rfl, (Below.refl _ _).alloc (Nat.le_refl _) _, ?_⟩
      have := World.rowIs_made w1 (.int .i64 0) js.length 3
      exact this.congr fun i hi => by simp
    case round =>
      obtain ⟨k, hk, rfl, hb, hrow⟩ := hrel
      have Hr := hide hrow
      clear hrow
      have hzr := Hr.out.lt
      by_cases hlt : k < js.length
      · have hg := Hr.out.cell (i := k) hlt
        have hgf := Hr.out.frozen k
        go_wp2_with fail
        go_roundw
        case rel =>
          refine ⟨k + 1, by omega, by go_num, hb.setCell (Nat.le_refl _) _, (Hr.out.set k _).congr fun i hi => ?_⟩
          by_cases e : i = k
          · subst e; simp
          · have : (i < k + 1) = (i < k) := by simp; omega
            simp only [if_neg e, this]
        case measure => simp [intOf]; omega
      · obtain rfl : k = js.length := by omega
        have hE : CmpEnv c (Value.slice ao js.length cap) js lo hi (w.heap.size + 1) w.heap.size w1.heap.size wr := by
          have r1 := rowIs_below RL.out hb (by omega)
          have r2 := rowIs_below RC.out hb (by omega)
          exact ⟨H1.out.below hb, r2.cell (i := 0) (by omega), r1.cell (i := 0) (by omega), by omega, by omega, by omega, hzr⟩
        have hrow' : wr.rowIs w1.heap.size 3 js.length (fun j => .int .i64 (j : Int)) := Hr.out.congr fun i hi => by simp [hi]
        have HE := hide hE
        have HR' := hide hrow'
        clear hE hrow'
        go_wp2_with fail
        refine (sortStable_any HC.out HCm.out _ js lo hi _ _ _ wr HE.out HV.out HR'.out).mono ?_
        rintro e w2 ⟨rfl, ho, hr2⟩
        have HR2 := hide hr2
        clear hr2
        go_wp2_with fail
        go_ret
        have hbr : Below w.heap.size w wr := Below.step hbw hb (Nat.le_refl _)
        refine ⟨_, rfl, ?_, Below.trans hbr (ho.below hz hbr.size)⟩
        have hle := soTo_len K js js.length
        have hat := IntsAt.of_row (xs := soTo K js js.length) HR2.out (by omega) (by omega) (fun i hi => by simp [hi]) hz
        rw [hle] at hat
        simpa [orderR, HV.out] using hat
end Go.Proofs.YtfjemnjdkniibaaDoor
