/-
  The walks over l1Has, l2Order, isOrder: whether a list has each index once.
-/
import Derived.Test.YtfjemnjdkniibaaDoorWalkB
import Derived.Test.YtfjemnjdkniibaaDoorMore
namespace Go.Proofs.YtfjemnjdkniibaaDoor
open Go.RowKit

theorem quiet_left {P : Program} {f : FuncId} {args : Array Value} {w : World} {n : Nat} {v : Value}
    (h : Calls P f args (w.drewN n) fun e w' => e = .returned v ∧ w.drewN n = w') : Calls P f args (w.drewN n) fun e w'' => e = .returned v ∧ ∃ m, w'' = w.drewN m :=
  h.mono fun _ _ ⟨he, hm⟩ => ⟨he, n, hm.symm⟩

def hasI (xs : List Int) (n : Int) : Bool := xs.any (· == n)
theorem hasI_iff {xs : List Int} {n : Int} : hasI xs n = true ↔ n ∈ xs := by simp [hasI]
theorem hasI_false {xs : List Int} {n : Int} : hasI xs n = false ↔ n ∉ xs := by
  rw [← hasI_iff]; simp

/-- A beginning of a slice. -/
theorem IntsAt.take {lo hi n cap k : Nat} {ao : Option Addr} {w : World} {xs : List Int} (h : IntsAt lo hi w (.slice ao n cap) xs) (hk : k ≤ n) : IntsAt lo hi w (.slice ao k cap) (xs.take k) := by
  obtain ⟨ao', cap', e, a1, a2, a3, a4⟩ := h
  simp only [Value.slice.injEq] at e
  obtain ⟨rfl, rfl, rfl⟩ := e
  have hl : (xs.take k).length = k := by simp; omega
  refine ⟨ao, cap, by rw [hl], by omega, a2, a3, fun hn => ?_⟩
  obtain ⟨b, o, ea, hb1, hb2, hc⟩ := a4 (by omega)
  refine ⟨b, o, ea, hb1, hb2, fun i hi => ?_⟩
  rw [List.getElem_take]
  exact hc i (by omega)

set_option maxHeartbeats 400000 in
theorem l1Has_any (v : Value) (xs : List Int) (lo hi : Nat) (n : Int) (w : World) (h : IntsAt lo hi w v xs) :
    Calls Tryd.prog 85 #[v, .int .i64 n] w fun e w' => e = .returned (.bool (hasI xs n)) ∧ w = w' := by
  obtain ⟨ao, cap, rfl, hlc, hcap, hhi, hc⟩ := h
  have Hc := hide hc
  clear hc
  go_enter Tryd.func85, Tryd.ntmps85
  go_wp2_with fail
  go_loop [5] (fun i => ∃ k : Nat, k ≤ xs.length ∧ i = .int .i64 k ∧ (∀ j (_ : j < xs.length), j < k → xs[j] ≠ n)) (fun i => xs.length - (intOf i).toNat)
  case atStart => exact ⟨0, Nat.zero_le _, rfl, fun _ _ h => absurd h (Nat.not_lt_zero _)⟩
  case round =>
    obtain ⟨k, hk, rfl, hall⟩ := hrel
    have Ha := hide hall
    clear hall
    by_cases hlt : k < xs.length
    · obtain ⟨b, o, rfl, hb1, hb2, hcs⟩ := Hc.out (by omega)
      obtain ⟨h1, -⟩ := hcs k hlt
      clear hcs
      by_cases hq : xs[k] = n
      · have hqB : (xs[k] == n) = true := by simp [hq]
        have hm : hasI xs n = true := hasI_iff.2 (by rw [← hq]; exact List.getElem_mem _)
        have HM := hide hm
        clear hq hm
        go_wp2_with fail
        go_ret
        exact ⟨by rw [HM.out]; rfl, rfl⟩
      · have hqB : (xs[k] == n) = false := by simp [hq]
        have HQ := hide hq
        clear hq
        go_wp2_with fail
        go_round
        case rel =>
          refine ⟨k + 1, by omega, by go_num, fun j hj hjk => ?_⟩
          by_cases e : j = k
          · subst e; exact HQ.out
          · exact Ha.out j hj (by omega)
        case measure => simp [intOf]; omega
    · have hm : hasI xs n = false := hasI_false.2 fun hx => by
        obtain ⟨j, hj, e⟩ := List.getElem_of_mem hx
        exact Ha.out j hj (by omega) e
      have HM := hide hm
      clear hm
      go_wp2_with fail
      go_ret
      exact ⟨by rw [HM.out]; rfl, rfl⟩

/-- The k-th of the order is an index, and is not among those before it. -/
def ordK (xs : List Int) (m : Int) (k : Nat) : Bool := wi (xs.getD k 0) 0 (m - 1) && !hasI (xs.take k) (xs.getD k 0)
/-- xs has each index below m once. -/
def ordB (xs : List Int) (m : Int) : Bool := decide ((xs.length : Int) = m) && upTo xs.length (ordK xs m)
theorem ordK_at {xs : List Int} {m : Int} {k : Nat} (hk : k < xs.length) : ordK xs m k = (wi xs[k] 0 (m - 1) && !hasI (xs.take k) xs[k]) := by simp [ordK, hk]

set_option maxHeartbeats 400000 in
theorem l2Order_any (v : Value) (xs : List Int) (lo hi : Nat) (m : Int) (w : World) (h : IntsAt lo hi w v xs) (hm0 : 0 ≤ m) (hm1 : m ≤ 9223372036854775807) :
    Calls Tryd.prog 82 #[v, .int .i64 m] w fun e w' => e = .returned (.bool (ordB xs m)) ∧ Below w.heap.size w w' := by
  obtain ⟨ao, cap, rfl, hlc, hcap, hhi, hc⟩ := id h
  have Hc := hide hc
  have HH := hide h
  clear hc h
  have hw : IntKind.i64.wrap (m - 1) = m - 1 := IntWalk.i64_in _ (by omega)
  go_enter Tryd.func82, Tryd.ntmps82
  go_wp2_with fail
  go_loopw [5] (fun i wr => ∃ k : Nat, k ≤ xs.length ∧ i = .int .i64 k ∧ Below w.heap.size w wr ∧ (∀ j, j < k → ordK xs m j = true)) (fun i _ => xs.length - (intOf i).toNat)
  case atStart => exact ⟨0, Nat.zero_le _, rfl, Below.refl _ _, fun _ h => absurd h (Nat.not_lt_zero _)⟩
  case round =>
    obtain ⟨k, hk, rfl, hb, hall⟩ := hrel
    have Ha := hide hall
    clear hall
    by_cases hlt : k < xs.length
    · obtain ⟨b, o, rfl, hb1, hb2, hcs⟩ := Hc.out (by omega)
      obtain ⟨h1, -⟩ := hcs k hlt
      rw [← hb.cell (p := ⟨b, _, none⟩) (by simpa using by omega)] at h1
      clear hcs
      have HHr := hide (IntsAt.keep HH.out (Keeps.of_below hb hhi) hb.size)
      have HK := hide (ordK_at (m := m) hlt)
      have hkI : (k : Int) < (xs.length : Int) := by omega
      have hkc : k ≤ cap := by omega
      cases hq : wi xs[k] 0 (m - 1) with
      | false =>
        have hf : ordB xs m = false := by
          have : upTo xs.length (ordK xs m) = false := upTo_false hlt (by rw [HK.out, hq]; rfl)
          simp [ordB, this]
        have HF := hide hf
        clear hf
        go_wp2_with fail
        go_quiet ((go_at_call 75; exact quiet_left (l1In_any _ _ _ _)))
        go_wp2_with fail
        go_ret
        exact ⟨by rw [HF.out]; rfl, below_drewN hb _⟩
      | true =>
        cases hh : hasI (xs.take k) xs[k] with
        | false =>
          have HT := hide (show ordK xs m k = true by rw [HK.out, hq, hh]; rfl)
          go_wp2_with fail
          go_quiet ((first | (go_at_call 75; exact quiet_left (l1In_any _ _ _ _)) | (go_at_call 85; exact quiet_left (l1Has_any _ (xs.take k) _ _ _ _ (IntsAt.take HHr.out hk)))))
          go_wp2_with fail
          go_roundw
          case rel => exact ⟨k + 1, by omega, by go_num, below_drewN hb _, upTo_snoc Ha.out HT.out⟩
          case measure => simp [intOf]; omega
        | true =>
          have hf : ordB xs m = false := by
            have : upTo xs.length (ordK xs m) = false := upTo_false hlt (by rw [HK.out, hq, hh]; rfl)
            simp [ordB, this]
          have HF := hide hf
          clear hf
          go_wp2_with fail
          go_quiet ((first | (go_at_call 75; exact quiet_left (l1In_any _ _ _ _)) | (go_at_call 85; exact quiet_left (l1Has_any _ (xs.take k) _ _ _ _ (IntsAt.take HHr.out hk)))))
          go_wp2_with fail
          go_ret
          exact ⟨by rw [HF.out]; rfl, below_drewN hb _⟩
    · have hf : ordB xs m = ((xs.length : Int) == m) := by
        have : upTo xs.length (ordK xs m) = true := upTo_true fun j hj => Ha.out j (by omega)
        simp only [ordB, this, Bool.and_true]
        rw [Bool.eq_iff_iff]; simp
      have HF := hide hf
      clear hf
      go_wp2_with fail
      go_ret
      exact ⟨by rw [HF.out]; rfl, hb⟩

theorem hasI_snoc {xs : List Int} {k : Nat} (hk : k < xs.length) (n : Int) : hasI (xs.take (k + 1)) n = (hasI (xs.take k) n || xs[k] == n) := by
  rw [List.take_succ_eq_append_getElem hk, hasI, List.any_append]; simp [hasI]

theorem info_bool : (Tryd.prog.info? 4).map (fun i => (i.zero, i.size, i.bytes)) = some (some (.bool false), 1, 1) := by kernel_rfl

set_option maxHeartbeats 400000 in
theorem isOrder_any (v : Value) (xs : List Int) (lo hi : Nat) (m : Nat) (w : World) (h : IntsAt lo hi w v xs) (hm1 : m ≤ 2097152) :
    Calls Tryd.prog 81 #[v, .int .i64 m] w fun e w' => e = .returned (.bool (ordB xs m)) ∧ Below w.heap.size w w' := by
  have hlt0 := h.lt
  obtain ⟨ao, cap, rfl, hlc, hcap, hhi, hc⟩ := id h
  have Hc := hide hc
  clear hc h
  by_cases hl : xs.length = m
  · have hlB : ((xs.length : Int) != (m : Int)) = false := by simp [hl]
    have HL := hide hl
    have hmk := fun W => make_rowN (P := Tryd.prog) 63 4 _ _ _ Tryd.underlying63 info_bool .i64 .i64 m (by omega) (by omega) W
    clear hl
    go_enter Tryd.func81, Tryd.ntmps81
    go_wp2_with fail
    clear hmk
    go_loopw [16] (fun i wr => ∃ k : Nat, k ≤ xs.length ∧ i = .int .i64 k ∧ Below w.heap.size w wr ∧ wr.rowIs w.heap.size 4 m (fun j => .bool (hasI (xs.take k) j)) ∧ (∀ j, j < k → ordK xs m j = true)) (fun i _ => xs.length - (intOf i).toNat)
    case atStart =>
      refine ⟨0, Nat.zero_le _, rfl, by go_grown, ?_, fun _ h => absurd h (Nat.not_lt_zero _)⟩
      have := World.rowIs_made w (.bool false) m 4
      simpa [hasI] using this
    case round =>
      obtain ⟨k, hk, rfl, hb, hrow, hall⟩ := hrel
      have Ha := hide hall
      have Hr := hide hrow
      clear hall hrow
      by_cases hlt : k < xs.length
      · obtain ⟨b, o, rfl, hb1, hb2, hcs⟩ := Hc.out (by omega)
        obtain ⟨h1, -⟩ := hcs k hlt
        rw [← hb.cell (p := ⟨b, _, none⟩) (by simpa using by omega)] at h1
        clear hcs
        have HK := hide (ordK_at (m := m) hlt)
        have hkI : (k : Int) < (xs.length : Int) := by omega
        cases hq : wi xs[k] 0 (m - 1) with
        | false =>
          have hf : ordB xs m = false := by
            have : upTo xs.length (ordK xs m) = false := upTo_false hlt (by rw [HK.out, hq]; rfl)
            simp [ordB, this]
          have HF := hide hf
          clear hf
          go_wp2_with fail
          refine (within_any _ _ _ _).mono ?_
          rw [hq]
          rintro e w' ⟨rfl, rfl⟩
          go_wp2_with fail
          go_ret
          exact ⟨by rw [HF.out]; rfl, hb⟩
        | true =>
          obtain ⟨q0, q1⟩ := wi_iff.1 hq
          obtain ⟨x, hx⟩ := Int.eq_ofNat_of_zero_le q0
          have hxm : x < m := by omega
          have hg := Hr.out.cell (i := x) hxm
          have hgf := Hr.out.frozen x
          cases hh : hasI (xs.take k) xs[k] with
          | false =>
            have HT := hide (show ordK xs m k = true by rw [HK.out, hq, hh]; rfl)
            rw [hx] at h1 hq hh
            rw [hh] at hg
            have HX := hide hx
            clear hx q0 q1
            go_wp2_with fail
            refine (within_any _ _ _ _).mono ?_
            rw [hq]
            rintro e w' ⟨rfl, rfl⟩
            go_wp2_with fail
            go_roundw
            case rel =>
              refine ⟨k + 1, by omega, by go_num, hb.setCell (Nat.le_refl _) _, (Hr.out.set x (.bool true)).congr fun i hi => ?_, upTo_snoc Ha.out HT.out⟩
              rw [hasI_snoc hlt, HX.out]
              by_cases e : i = x
              · subst e; simp
              · have : ((x : Int) == (i : Int)) = false := by rw [beq_eq_false_iff_ne]; omega
                simp [e, this]
            case measure => simp [intOf]; omega
          | true =>
            have hf : ordB xs m = false := by
              have : upTo xs.length (ordK xs m) = false := upTo_false hlt (by rw [HK.out, hq, hh]; rfl)
              simp [ordB, this]
            have HF := hide hf
            rw [hx] at h1 hq hh
            rw [hh] at hg
            clear hf hx q0 q1
            go_wp2_with fail
            refine (within_any _ _ _ _).mono ?_
            rw [hq]
            rintro e w' ⟨rfl, rfl⟩
            go_wp2_with fail
            go_ret
            exact ⟨by rw [HF.out]; rfl, hb⟩
      · have hf : ordB xs m = true := by
          have : upTo xs.length (ordK xs m) = true := upTo_true fun j hj => Ha.out j (by omega)
          simp only [ordB, this, Bool.and_true]
          have := HL.out
          simp [this]
        have HF := hide hf
        clear hf
        go_wp2_with fail
        go_ret
        exact ⟨by rw [HF.out]; rfl, hb⟩
  · have hlB : ((xs.length : Int) != (m : Int)) = true := by simp; omega
    have hf : ordB xs m = false := by simp [ordB]; omega
    rw [hf]
    clear hf hl
    go_enter Tryd.func81, Tryd.ntmps81
    go_wp2_with fail
    go_ret
    exact ⟨rfl, Below.refl _ _⟩
end Go.Proofs.YtfjemnjdkniibaaDoor
