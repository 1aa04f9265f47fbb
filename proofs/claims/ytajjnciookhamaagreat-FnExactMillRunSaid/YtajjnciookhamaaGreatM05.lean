/-
  Parts of the proof, of 5 texts: what WalkA, WalkB, Frame, PlainClear, PlainLaw show. Conditions: each theorem states its own.
-/
import Derived.Test.YtajjnciookhamaaGreatProg
import Derived.StillTailTactics
import Derived.Deep.QuietTactic
import Derived.BigQuiet
import Derived.ProofKit
import Derived.SizedLaws
import Derived.Deep.Slices
import Derived.Deep.Fields
import Derived.ChangeSame
import Derived.Test.YtajjnciookhamaaGreatM01
import Derived.Test.YtajjnciookhamaaGreatM04
namespace Go.Proofs.YtajjnciookhamaaGreat
open Go.RowKit
theorem within_any (n a b : Int) (w : World) :
    Calls Tryz.prog 72 #[.int .i64 n, .int .i64 a, .int .i64 b] w fun e w' => e = .returned (.bool (wi n a b)) ∧ w = w' := by
  by_cases h1 : a ≤ n
  · go_enter Tryz.func72, Tryz.ntmps72
    go_wp2
    go_ret
    simp [h1, wi]
  · have h2 : decide (a ≤ n) = false := by simp [h1]
    go_enter Tryz.func72, Tryz.ntmps72
    go_wp2
    go_ret
    simp [wi, h2]
theorem l1In_any (n a b : Int) (w : World) :
    Calls Tryz.prog 57 #[.int .i64 n, .int .i64 a, .int .i64 b] w fun e w' => e = .returned (.bool (wi n a b)) ∧ w = w' := by
  by_cases h1 : a ≤ n
  · go_enter Tryz.func57, Tryz.ntmps57
    go_wp2
    go_ret
    simp [h1, wi]
  · have h2 : decide (a ≤ n) = false := by simp [h1]
    go_enter Tryz.func57, Tryz.ntmps57
    go_wp2
    go_ret
    simp [wi, h2]
/-- What is left of the purse. -/
def szI (left : Int) (n : Nat) : Int := if left - n < 0 then -1 else left - n
end Go.Proofs.YtajjnciookhamaaGreat
namespace Go.Proofs.YtajjnciookhamaaGreat
open Go.RowKit
theorem info_int : (Tryz.prog.info? 3).map (fun i => (i.zero, i.size, i.bytes)) = some (some (.int .i64 0), 1, 8) := by kernel_rfl
set_option maxHeartbeats 400000 in
theorem toIntS_any (v : Value) (xs : List Int) (lo hi : Nat) (w : World) (h : IntsAt lo hi w v xs) (hlen : xs.length ≤ 2097152) :
    Calls Tryz.prog 69 #[v] w fun e w' => ∃ v', e = .returned v' ∧ IntsAt w.heap.size w'.heap.size w' v' xs ∧ Below w.heap.size w w' := by
  have hlt0 := h.lt
  obtain ⟨ao, cap, rfl, hlc, hcap, hhi, hc⟩ := h
  have Hc := hide hc
  clear hc
  have hmk := fun W => make_rowN (P := Tryz.prog) 26 3 _ _ _ Tryz.underlying26 info_int .i64 .i64 xs.length (by omega) (by omega) W
  go_enter Tryz.func69, Tryz.ntmps69
  go_wp2_with fail
  clear hmk
  go_loopw [4] (fun i wr => ∃ k : Nat, k ≤ xs.length ∧ i = .int .i64 k ∧ Below w.heap.size w wr ∧ ∃ f, wr.rowIs w.heap.size 3 xs.length f ∧ (∀ j (_ : j < xs.length), j < k → f j = .int .i64 xs[j])) (fun i _ => xs.length - (intOf i).toNat)
  case atStart =>
    obtain ⟨f, hf⟩ := rowIs_madeN w (Value.int .i64 0).cells (xs.length * 1) 3
    rw [Nat.mul_one] at hf
    exact ⟨0, Nat.zero_le _, rfl, by go_grown, f, hf, fun _ _ h => absurd h (Nat.not_lt_zero _)⟩
  case round =>
    obtain ⟨k, hk, rfl, hb, f, hrow, hall⟩ := hrel
    have Ha := hide hall
    have Hr := hide hrow
    clear hall
    by_cases hlt : k < xs.length
    · obtain ⟨b, o, rfl, hb1, hb2, hcs⟩ := Hc.out (by omega)
      obtain ⟨h1, -⟩ := hcs k hlt
      rw [← hb.cell (p := ⟨b, _, none⟩) (by simpa using by omega)] at h1
      have hg1 := hrow.cell (i := k) hlt
      have hg2 := hrow.frozen k
      clear hcs hrow
      go_wp2_with fail
      go_roundw
      case rel =>
        refine ⟨k + 1, by omega, by go_num, hb.setCell (Nat.le_refl _) _, _, Hr.out.set k _, fun j hj hjk => ?_⟩
        by_cases e : j = k
        · subst e; simp
        · simp only [if_neg e]; exact Ha.out j hj (by omega)
      case measure => simp [intOf]; omega
    · go_wp2_with fail
      go_ret
      refine ⟨_, rfl, IntsAt.of_row Hr.out (Nat.le_refl _) (by omega) (fun i hi => Ha.out i hi (by omega)) (Nat.le_refl _), hb⟩
set_option maxHeartbeats 400000 in
/-- The marks: every int is overwritten. -/
theorem markIntS_any (v : Value) (xs : List Int) (lo hi : Nat) (k0 : Int) (w : World) (h : IntsAt lo hi w v xs) (hlen : xs.length ≤ 2097152) (hk0 : 0 ≤ k0) (hk1 : k0 ≤ 16777216) :
    Calls Tryz.prog 95 #[v, .int .i64 k0] w fun e w' => e = .returned (.int .i64 (k0 + xs.length)) ∧ Other lo hi w w' ∧ ∃ ys : List Int, ys.length = xs.length ∧ (∀ i (_ : i < ys.length), ys[i] = k0 + i) ∧ IntsAt lo hi w' v ys := by
  have h0 := h
  obtain ⟨ao, cap, rfl, hlc, hcap, hhi, hc⟩ := h
  have Hc := hide hc
  clear hc
  go_enter Tryz.func95, Tryz.ntmps95
  go_wp2_with fail
  go_loopw [1, 5] (fun m i wr => ∃ k : Nat, k ≤ xs.length ∧ i = .int .i64 k ∧ m = .int .i64 (k0 + k) ∧ Other lo hi w wr ∧ ∃ ys : List Int, ys.length = xs.length ∧ (∀ i (_ : i < ys.length), i < k → ys[i] = k0 + i) ∧ IntsAt lo hi wr (.slice ao xs.length cap) ys) (fun _ i _ => xs.length - (intOf i).toNat)
  case atStart => exact ⟨0, Nat.zero_le _, rfl, by simp, Other.refl _ _ _, xs, rfl, fun _ _ h => absurd h (Nat.not_lt_zero _), h0⟩
  case round =>
    obtain ⟨k, hk, rfl, rfl, hb, ys, hyl, hall, hat⟩ := hrel
    have Hyl := hide hyl
    have Ha := hide hall
    have Hat := hide hat
    clear hall hyl hat
    by_cases hlt : k < xs.length
    · obtain ⟨ao', cap', e, a1, a2, a3, a4⟩ := Hat.out
      simp only [Value.slice.injEq] at e
      obtain ⟨rfl, -, rfl⟩ := e
      obtain ⟨b, o, rfl, hb1, hb2, hcs⟩ := a4 (by have := Hyl.out; omega)
      obtain ⟨h1, h2⟩ := hcs k (by have := Hyl.out; omega)
      clear a4 hcs
      go_wp2_with fail
      go_roundw
      case rel =>
        refine ⟨k + 1, by omega, by go_num, by go_num, hb.setCell hb1 hb2 _, ys.set k (k0 + k), by simp [Hyl.out], fun i hi hik => ?_, ?_⟩
        · rw [List.getElem_set]
          split
          · subst k; rfl
          · exact Ha.out i (by simpa using hi) (by omega)
        · exact IntsAt.set Hat.out (by have := Hyl.out; omega) (by simp [Hyl.out]) _
      case measure => simp [intOf]; omega
    · go_wp2_with fail
      go_ret
      refine ⟨?_, hb, ys, Hyl.out, fun i hi => Ha.out i hi (by have := Hyl.out; omega), Hat.out⟩
      have : (k : Int) = xs.length := by omega
      rw [this]; rfl
set_option maxHeartbeats 400000 in
/-- The marks are still there. -/
theorem heldIntS_any (v : Value) (ys : List Int) (lo hi : Nat) (k0 : Int) (w : World) (h : IntsAt lo hi w v ys) (hlen : ys.length ≤ 2097152) (hk0 : 0 ≤ k0) (hk1 : k0 ≤ 16777216) (hm : ∀ i (_ : i < ys.length), ys[i] = k0 + i) :
    Calls Tryz.prog 96 #[v, .int .i64 k0] w fun e w' => e = .returned (.int .i64 (k0 + ys.length)) ∧ w = w' := by
  obtain ⟨ao, cap, rfl, hlc, hcap, hhi, hc⟩ := h
  have Hc := hide hc
  have Hm := hide hm
  clear hc hm
  go_enter Tryz.func96, Tryz.ntmps96
  go_wp2_with fail
  go_loop [1, 5] (fun m i => ∃ k : Nat, k ≤ ys.length ∧ i = .int .i64 k ∧ m = .int .i64 (k0 + k)) (fun _ i => ys.length - (intOf i).toNat)
  case atStart => exact ⟨0, Nat.zero_le _, rfl, by simp⟩
  case round =>
    obtain ⟨k, hk, rfl, rfl⟩ := hrel
    by_cases hlt : k < ys.length
    · obtain ⟨b, o, rfl, hb1, hb2, hcs⟩ := Hc.out (by omega)
      obtain ⟨h1, -⟩ := hcs k hlt
      rw [Hm.out k hlt] at h1
      clear hcs
      go_wp2_with fail
      go_round
      case rel => exact ⟨k + 1, by omega, by go_num, by go_num⟩
      case measure => simp [intOf]; omega
    · go_wp2_with fail
      go_ret
      refine ⟨?_, rfl⟩
      have : (k : Int) = ys.length := by omega
      rw [this]; rfl
end Go.Proofs.YtajjnciookhamaaGreat
namespace Go.Proofs.YtajjnciookhamaaGreat
open Go.ChangeShapes Go.WideShapes Go.Deep Go.RowKit
section
variable {H : Type} {enc : TypeId × Value → H} {P : Program}
/-- Every argument reads as it did. -/
theorem trodAll_stays {W W' : World} (hl : laidOutB P = true) (hb : Below W.heap.size W W') (sp : Nat → Bool) :
    ∀ {ts : List TypeId} {vs : List Value} {ds : List (DataW H)} {ps : List MemPlace}, (∀ t ∈ ts, P.readableRec t = true ∧ t < P.types.size) →
      DataW.TrodAll enc P W 0 (fun _ => true) true ts vs ds ps → (∀ x ∈ ps, x.block < W.heap.size) → (∀ x ∈ ps, sp x.block = true) → DataW.TrodAll enc P W' 0 sp true ts vs ds ps
  | [], _, _, _, _, h, _, _ => by
    obtain ⟨rfl, rfl, rfl⟩ := trodAll_nil h
    exact trodAll_mk0
  | t :: ts, _, _, _, hts, h, hlt, hsp => by
    obtain ⟨v, vs, d, ds, p, q, rfl, rfl, rfl, h1, h2⟩ := trodAll_cons h
    obtain ⟨r1, r2⟩ := hts t (by simp)
    refine trodAll_cons_mk (WideElems.Trod_stays hl r1 r2 h1 (fun x hx => hb.same (hlt x (List.mem_append_left _ hx))) (fun x hx => hsp x (List.mem_append_left _ hx))) ?_
    exact trodAll_stays hl hb sp (fun t ht => hts t (List.mem_cons_of_mem _ ht)) h2 (fun x hx => hlt x (List.mem_append_right _ hx)) (fun x hx => hsp x (List.mem_append_right _ hx))
/-- A law that answered true and left all old memory alone. -/
theorem law_post {f : Func} {s : ChangeSpec} {apart fresh handsOn again : Bool} {W W' : World} {args : Array Value} {ds gs : List (DataW H)} {before : List MemPlace} {tb : TypeId}
    (hl : laidOutB P = true) (hts : ∀ t ∈ f.params.toList, P.readableRec t = true ∧ t < P.types.size) (hr : f.resultTypes = #[tb]) (hbool : P.underlying tb = some .bool)
    (hv : s.vars = []) (hsf : s.fn H (ds ++ gs) = { results := [.lit (.bool true)], args := ds })
    (hW : DataW.Whole enc P f.params.toList s.vars apart W args.toList ds gs before) (hb : Below W.heap.size W W') :
    s.post enc P f apart fresh handsOn again W args (.bool true) W' := by
  have hlt : ∀ p ∈ before, p.block < W.heap.size := fun p hp => hW.lt p hp
  have hW0 := hW
  obtain ⟨p, q, hA, hV, rfl, hz, hn⟩ := hW
  rw [hv] at hV
  obtain ⟨rfl, rfl⟩ := trodVars_none hV
  simp only [List.append_nil] at hlt hW0
  have hargs : ∀ sp : Nat → Bool, (∀ x ∈ p, sp x.block = true) → DataW.TrodAll enc P W' 0 sp true f.params.toList args.toList (s.fn H (ds ++ [])).args p := fun sp hsp => by
    rw [hsf]
    exact trodAll_stays hl hb sp hts hA hlt hsp
  have hvars : ∀ sp : Nat → Bool, DataW.TrodVars enc P W' sp s.vars (s.fn H (ds ++ [])).vars [] := fun sp => by
    rw [hsf, hv]; rfl
  have hres : ∀ (b : Nat) (sp : Nat → Bool) (hd : Bool), DataW.TrodAll enc P W' b sp hd f.resultTypes.toList ((Value.bool true).resultList f.resultTypes.size) (s.fn H (ds ++ [])).results [] := fun b sp hd => by
    rw [hsf, hr]
    exact trodAll_mk1 (shut_bool hbool _)
  have hold : ∀ x ∈ p, (fun b => decide (b < W.heap.size)) x.block = true := fun x hx => by simpa using hlt x hx
  refine ⟨ds, [], p, [], p, [], hW0, hres _ _ _, hargs _ hold, hvars _, World.keptBut_mono (fun x hx => ⟨hx, ?_⟩) (hb.frame (· ∈ p)), fun _ => ?_⟩
  · exact Or.inr (Or.inl hx)
  · refine ⟨ok_one hr rfl (okWide_bool_mk hbool _), _, _, ([] ++ p) ++ [], ⟨[] ++ p, [], trodAll_append (hargs _ (fun _ _ => rfl)) (hres _ _ _), hvars _, rfl, ?_, ?_⟩, ?_⟩
    · intro b off hp
      have hin : MemPlace.cell b off ∈ p := by simpa using hp
      rw [hb.frozen (hlt _ hin)]
      exact hz b off (by simpa using hin)
    · intro ha
      have := hn ha
      simpa using this
    · intro x hx _
      simpa using hx
theorem wf64 {n : Int} (h : (Lit.int .i64 n).wf = true) : -9223372036854775808 ≤ n ∧ n ≤ 9223372036854775807 := by
  simp [Lit.wf, IntKind.min, IntKind.max, IntKind.signed, IntKind.bits] at h
  exact ⟨by omega, by omega⟩
theorem cell_spot {w : World} {a : Addr} {v : Value} (h : w.cell? a = some v) : a.spot = none ∧ a.block < w.heap.size := by
  unfold World.cell? at h
  split at h
  · rename_i c e m hb
    refine ⟨?_, ?_⟩
    · cases hs : a.spot with
      | none => rfl
      | some s => simp [hs] at h
    · obtain ⟨hlt, _⟩ := Array.getElem?_eq_some_iff.1 hb
      exact hlt
  · cases h
/-- An argument that is a slice of ints. -/
theorem open_intsAt {t e : TypeId} {w : World} {v : Value} {d : DataW H} {ps before : List MemPlace} (ht : P.underlying t = some (.slice e)) (he : P.underlying e = some (.int .i64)) (hc : P.cellsOf e = 1)
    (h : DataW.Trod enc P w 0 (fun _ => true) true t v d ps) (hvs : ∃ ao n c, v = .slice ao n c) (hz : w.noneFrozen before) (hp : ∀ x ∈ ps, x ∈ before) :
    ∃ xs : List Int, IntsAt 0 w.heap.size w v xs ∧ ∀ x ∈ xs, -9223372036854775808 ≤ x ∧ x ≤ 9223372036854775807 := by
  obtain ⟨ao, n0, c0, rfl⟩ := hvs
  obtain ⟨fuel, hf⟩ := h
  rcases open_slice1 ht hc hf with ⟨hcs, hx⟩ | ⟨a, len, cap, m, n, V, D, Pl, hcs, hb, hl, hm, hmm, hx, hi⟩
  · simp only [Value.cells, List.cons.injEq, and_true] at hcs
    rw [hcs]
    exact ⟨[], ⟨none, 0, rfl, Nat.le_refl _, by omega, Nat.le_refl _, fun h => absurd h (Nat.not_lt_zero _)⟩, by simp⟩
  · simp only [Value.cells, List.cons.injEq, and_true] at hcs
    rw [hcs]
    simp only [↓reduceIte] at hmm
    subst hmm
    simp only [Prod.mk.injEq] at hx
    have hint : ∀ i, i < m → ∃ x : Int, V i = .int .i64 x ∧ -9223372036854775808 ≤ x ∧ x ≤ 9223372036854775807 := fun i him => by
      obtain ⟨_, ht'⟩ := hi i him
      obtain ⟨x, e1, _, e3⟩ := DataW.trod_int he ht'
      simp only [List.cons.injEq, and_true] at e1
      exact ⟨x, e1, wf64 e3⟩
    obtain ⟨X, hX⟩ := choose_lt hint
    refine ⟨(List.range len).map X, ⟨some a, m, by simp, by simpa using hl, by unfold maxLen at hm; omega, Nat.le_refl _, fun hn => ?_⟩, ?_⟩
    · have hn' : 0 < len := by simpa using hn
      obtain ⟨h0, _⟩ := hi 0 (by omega)
      have ha0 : a.add 0 = a := by simp [Addr.add]
      rw [ha0] at h0
      obtain ⟨hs, hblt⟩ := cell_spot h0
      obtain ⟨b, o, sp⟩ := a
      simp only at hs hblt
      subst hs
      refine ⟨b, o, rfl, Nat.zero_le _, hblt, fun i hi' => ?_⟩
      have hi'' : i < len := by simpa using hi'
      obtain ⟨h1, _⟩ := hi i (by omega)
      have hadd : (⟨b, o, none⟩ : Addr).add i = ⟨b, o + i, none⟩ := by
        unfold Addr.add
        split
        · next h => subst h; rfl
        · rfl
      rw [hadd] at h1
      refine ⟨by rw [h1, (hX i (by omega)).1]; simp, ?_⟩
      refine hz b (o + i) (hp _ ?_)
      rw [hx.2]
      exact List.mem_append_left _ (MemPlace.mem_row.2 ⟨i, by omega, rfl⟩)
    · intro x hx'
      obtain ⟨i, hi', rfl⟩ := List.mem_map.1 hx'
      exact (hX i (by have := List.mem_range.1 hi'; omega)).2
/-- An argument that is a slice of structs of three ints. -/
theorem open_jobsAt {t e : TypeId} {f0 f1 f2 : Field} {w : World} {v : Value} {d : DataW H} {ps before : List MemPlace} (ht : P.underlying t = some (.slice e)) (he : P.underlying e = some (.struct #[f0, f1, f2])) (hone : oneCellFields P #[f0, f1, f2] = true) (hc : P.cellsOf e = 3)
    (t0 : P.underlying f0.type = some (.int .i64)) (t1 : P.underlying f1.type = some (.int .i64)) (t2 : P.underlying f2.type = some (.int .i64))
    (h : DataW.Trod enc P w 0 (fun _ => true) true t v d ps) (hvs : ∃ ao n c, v = .slice ao n c) (hz : w.noneFrozen before) (hp : ∀ x ∈ ps, x ∈ before) :
    ∃ js : List J, JobsAt 0 w.heap.size w v js ∧ ∀ j ∈ js, (-9223372036854775808 ≤ j.s ∧ j.s ≤ 9223372036854775807) ∧ (-9223372036854775808 ≤ j.d ∧ j.d ≤ 9223372036854775807) ∧ (-9223372036854775808 ≤ j.g ∧ j.g ≤ 9223372036854775807) := by
  obtain ⟨ao, n0, c0, rfl⟩ := hvs
  obtain ⟨fuel, hf⟩ := h
  rcases open_slice ht hf with ⟨hcs, hx⟩ | ⟨a, len, cap, m, n, D, Pl, hcs, hb, hl, hm, hmm, hx, hi⟩
  · simp only [Value.cells, List.cons.injEq, and_true] at hcs
    rw [hcs]
    exact ⟨[], ⟨none, 0, rfl, Nat.le_refl _, by omega, Nat.le_refl _, fun h => absurd h (Nat.not_lt_zero _)⟩, by simp⟩
  · simp only [Value.cells, List.cons.injEq, and_true] at hcs
    rw [hcs]
    simp only [↓reduceIte] at hmm
    subst hmm
    simp only [Prod.mk.injEq] at hx
    rw [hc] at hx hi
    have hint : ∀ i, i < m → ∃ j : J, (w.cell? (a.add (i * 3)) = some (.int .i64 j.s) ∧ w.cell? (a.add (i * 3 + 1)) = some (.int .i64 j.d) ∧ w.cell? (a.add (i * 3 + 2)) = some (.int .i64 j.g)) ∧
        (-9223372036854775808 ≤ j.s ∧ j.s ≤ 9223372036854775807) ∧ (-9223372036854775808 ≤ j.d ∧ j.d ≤ 9223372036854775807) ∧ (-9223372036854775808 ≤ j.g ∧ j.g ≤ 9223372036854775807) := fun i him => by
      obtain ⟨cs', hcc, ht'⟩ := hi i him
      obtain ⟨ys, n', hn', hy, hlen, hyl, hfl⟩ := DataW.trod_struct he ht'
      obtain ⟨_, hcl, hat⟩ := World.cells?_some hcc
      match cs', hcl with
      | [c0, c1, c2], _ =>
        obtain ⟨o0, k0⟩ := hone_of hone 0 f0 rfl
        obtain ⟨o1, k1⟩ := hone_of hone 1 f1 rfl
        obtain ⟨o2, k2⟩ := hone_of hone 2 f2 rfl
        have a0 := hat 0 (by omega)
        have a1 := hat 1 (by omega)
        have a2 := hat 2 (by omega)
        have g0 := hfl 0 f0 rfl
        have g1 := hfl 1 f1 rfl
        have g2 := hfl 2 f2 rfl
        simp only [o0, k0, o1, k1, o2, k2, List.drop_zero, List.drop_succ_cons, List.take_succ_cons, List.take_zero] at g0 g1 g2
        match ys, hyl with
        | [y0, y1, y2], _ =>
          obtain ⟨x0, e0, _, w0⟩ := DataW.trod_int t0 (by simpa using g0)
          obtain ⟨x1, e1, _, w1⟩ := DataW.trod_int t1 (by simpa using g1)
          obtain ⟨x2, e2, _, w2⟩ := DataW.trod_int t2 (by simpa using g2)
          simp only [List.cons.injEq, and_true] at e0 e1 e2
          subst e0 e1 e2
          rw [add_add] at a0 a1 a2
          exact ⟨⟨x0, x1, x2⟩, ⟨by simpa using a0, by simpa using a1, by simpa using a2⟩, wf64 w0, wf64 w1, wf64 w2⟩
    have : Inhabited J := ⟨⟨0, 0, 0⟩⟩
    obtain ⟨X, hX⟩ := choose_lt hint
    refine ⟨(List.range len).map X, ⟨some a, m, by simp, by simpa using hl, by unfold maxLen at hm; omega, Nat.le_refl _, fun hn => ?_⟩, ?_⟩
    · have hn' : 0 < len := by simpa using hn
      obtain ⟨⟨h0, _⟩, _⟩ := hX 0 (by omega)
      have ha0 : a.add (0 * 3) = a := by simp [Addr.add]
      rw [ha0] at h0
      obtain ⟨hs, hblt⟩ := cell_spot h0
      obtain ⟨b, o, sp⟩ := a
      simp only at hs hblt
      subst hs
      have hadd : ∀ i, (⟨b, o, none⟩ : Addr).add i = ⟨b, o + i, none⟩ := fun i => by
        unfold Addr.add
        split
        · next h => subst h; rfl
        · rfl
      refine ⟨b, o, rfl, Nat.zero_le _, hblt, fun i hi' => ?_⟩
      have hi'' : i < len := by simpa using hi'
      obtain ⟨⟨h1, h2, h3⟩, _⟩ := hX i (by omega)
      rw [hadd] at h1 h2 h3
      have hfr : ∀ k, k < m * 3 → w.frozen? ⟨b, o + k, none⟩ = false := fun k hk => by
        refine hz b (o + k) (hp _ ?_)
        rw [hx.2]
        exact List.mem_append_left _ (MemPlace.mem_row.2 ⟨k, by omega, rfl⟩)
      refine ⟨⟨by rw [h1]; simp, by rw [show o + i * 3 + 1 = o + (i * 3 + 1) by omega, h2]; simp, by rw [show o + i * 3 + 2 = o + (i * 3 + 2) by omega, h3]; simp⟩, hfr _ (by omega), ?_, ?_⟩
      · rw [show o + i * 3 + 1 = o + (i * 3 + 1) by omega]; exact hfr _ (by omega)
      · rw [show o + i * 3 + 2 = o + (i * 3 + 2) by omega]; exact hfr _ (by omega)
    · intro x hx'
      obtain ⟨i, hi', rfl⟩ := List.mem_map.1 hx'
      exact (hX i (by have := List.mem_range.1 hi'; omega)).2
end
theorem and2 {a b : Bool} (h1 : a = true) (h2 : b = true) : (a && b) = true := by rw [h1, h2]; rfl
/-- The closed facts of a row, in pieces: the three great ones are the program's own and are proved once. -/
theorem joined_of {P : Program} {f : FuncId} {fn : Func} {s : ChangeSpec} {c : OpenClaim}
    (a : (c.wf (OpenSpec.ofChange s) && laidOutB P && mapsRowed P && fn.params.all (P.readableRec ·) && namedTie P c.named s.vars && (c.stops == []) && (P.stops == []) && (c.knobs == []) && (P.stopKnobs == [])) = true)
    (b1 : (c.inPlace == P.inPlace f) = true) (b2 : (c.unfollowed == P.unfollowed f) = true) (b3 : (c.recurses == P.recurses f) = true) (b4 : (c.named == P.varsNamed f) = true)
    (d1 : ((c.maps == (fn.params.toList ++ s.plain.varTypes P).any (P.mapsRec ·)) && (c.ifaces == (fn.params.toList ++ s.plain.varTypes P).any (P.ifacesRec ·)) && (c.mapsOut == P.mapsAmong fn.resultTypes.toList) &&
      (c.loops == (fn.params.toList ++ s.plain.varTypes P).any (P.loopsFrom ·)) && (c.wideKeys == (fn.params.toList ++ s.plain.varTypes P ++ fn.resultTypes.toList).any (P.wideKeysFrom ·))) = true)
    (d2 : (s.vars.all (P.varReadable ·) && fn.resultTypes.all (fun t => P.readableRec t && decide (t < P.types.size)) && (c.ifacesOut == fn.resultTypes.toList.any (P.ifacesRec ·)) && (c.loopsOut == fn.resultTypes.toList.any (P.loopsFrom ·)) && (c.plainKeys == P.plainKeys) && c.shortTexts.isNone && P.stopsHeard) = true)
    (may : P.mayEnter = true) (lifts : (c.lifted == P.liftsFinal) = true) (make : (P.make == some c.make) = true)
    (e : ((c.kinds == (if c.domain.isEmpty then [] else fn.params.toList.map fun t => match P.underlying t with | some (.int k) => some k | _ => none)) && (c.pinned == c.pinnedBy) &&
      (c.veiled == (fn.params.toList ++ s.plain.varTypes P ++ fn.resultTypes.toList).any (P.veiledRec ·)) && c.veiledFits P fn.params.toList (fn.params.toList ++ s.plain.varTypes P ++ fn.resultTypes.toList)) = true) :
    joinedFacts P f fn s c = true := by
  unfold joinedFacts
  rw [Bool.and_eq_true, Bool.and_eq_true, Bool.and_eq_true] at e
  obtain ⟨⟨⟨e1, e2⟩, e3⟩, e4⟩ := e
  rw [Bool.and_eq_true, Bool.and_eq_true, Bool.and_eq_true, Bool.and_eq_true] at d1
  obtain ⟨⟨⟨⟨d11, d12⟩, d13⟩, d14⟩, d15⟩ := d1
  rw [Bool.and_eq_true, Bool.and_eq_true, Bool.and_eq_true, Bool.and_eq_true, Bool.and_eq_true, Bool.and_eq_true] at d2
  obtain ⟨⟨⟨⟨⟨⟨d21, d22⟩, d23⟩, d24⟩, d25⟩, d26⟩, d27⟩ := d2
  exact and2 (and2 (and2 (and2 (and2 (and2 (and2 (and2 (and2 (and2 (and2 (and2 (and2 (and2 (and2 (and2 (and2 (and2 (and2 (and2 (and2 (and2 (and2 a b1) b2) b3) b4) d11) d12) d13) d14) d15) d21) d22) d23) d24) d25) d26) d27) may) lifts) make) e1) e2) e3) e4
end Go.Proofs.YtajjnciookhamaaGreat
namespace Go.Proofs.YtajjnciookhamaaGreat
open Go.RowKit
theorem nz_app (a b : List Int) : nz (a ++ b) = nz a ++ nz b := by simp [nz]
theorem at_hi {lo hi : List Int} (hv : PileV lo hi) {k : Nat} (hk : k < hi.length) : atR lo hi true k = hi.getD k 0 := by
  unfold atR
  rw [if_pos (by rw [Bool.and_eq_true, wi_iff]; exact ⟨pileB_iff.2 hv, by omega, by show (k : Int) ≤ (hi.length : Int) - 1; omega⟩)]
  show hi.getD (k : Int).toNat 0 = _
  rw [Int.toNat_natCast]
theorem idx_get {l : List Int} {id : Int} (h : id ∈ l) : l.idxOf id < l.length ∧ l.getD (l.idxOf id) 0 = id := by
  have hl := List.idxOf_lt_length_of_mem h
  refine ⟨hl, ?_⟩
  rw [List.getD_eq_getElem?_getD, List.getElem?_eq_getElem hl]
  exact List.getElem_idxOf hl
theorem take_hi {lo hi : List Int} (hv : PileV lo hi) {id : Int} (h : id ∈ nz hi) :
    findR lo hi id = some (true, ((hi.idxOf id : Nat) : Int)) ∧ takeR lo hi true (hi.idxOf id : Nat) = ((lo, hi.set (hi.idxOf id) 0), id) := by
  obtain ⟨h1, h2⟩ := mem_nz.1 h
  have hr := hv.rng id (List.mem_append_right _ h1)
  obtain ⟨i1, i2⟩ := idx_get h1
  have hnl : id ∉ lo := fun hl => by
    have := hv.nd
    rw [nz_app, List.nodup_append] at this
    exact this.2.2 id (mem_nz.2 ⟨hl, h2⟩) id h rfl
  constructor
  · unfold findR
    rw [if_pos (by rw [Bool.and_eq_true, decide_eq_true_iff]; exact ⟨pileB_iff.2 hv, by omega⟩), if_neg (by rw [hasI_iff]; exact hnl), if_pos (hasI_iff.2 h1)]
  · unfold takeR
    have e := at_hi hv i1
    rw [i2] at e
    rw [if_pos (pileB_iff.2 hv), e, if_neg (by simp [onR]; omega)]
    simp [setR]
/-- Deeds that are all done lead from a mill to another one. -/
def Goes (m : Mi) (l : List J) (x : Mi) : Prop := ∀ n : Int, l.foldl runS (m, n) = (x, n + l.length)
theorem Goes.nil (m : Mi) : Goes m [] m := fun n => by simp
theorem Goes.cons {m y x : Mi} {d : J} {l : List J} (h : doR m d = (y, true)) (k : Goes y l x) : Goes m (d :: l) x := fun n => by
  rw [List.foldl_cons, show runS (m, n) d = (y, n + 1) by unfold runS; simp only [h, if_true], k (n + 1), List.length_cons]
  simp only [Prod.mk.injEq, true_and]; omega
theorem Goes.append {m y x : Mi} {a b : List J} (h : Goes m a y) (k : Goes y b x) : Goes m (a ++ b) x := fun n => by
  rw [List.foldl_append, h n, k, List.length_append]
  simp only [Prod.mk.injEq, true_and]; omega
/-- What stays the same while a mill is cleared. -/
structure Keep (m x : Mi) : Prop where
  v : MillV x
  st : x.strand = m.strand
  sc : x.scrap = m.scrap
  len : x.pieces.length = m.pieces.length
theorem Keep.trans {a b c : Mi} (h : Keep a b) (k : Keep b c) : Keep a c := ⟨k.v, k.st.trans h.st, k.sc.trans h.sc, k.len.trans h.len⟩
end Go.Proofs.YtajjnciookhamaaGreat
namespace Go.Proofs.YtajjnciookhamaaGreat
open Go.RowKit
theorem do_bad {m : Mi} (hv : millB m = false) (d : J) : doR m d = (mi0, false) := by
  unfold doR
  rw [if_neg (by simp [hv])]
theorem run_bad {m : Mi} {l : List J} (h : millB m = false ∨ 99 < l.length) : runR m l = (mi0, 0) := by
  unfold runR
  rw [if_neg]
  rw [Bool.and_eq_true, decide_eq_true_iff]
  rintro ⟨h1, h2⟩
  rcases h with h | h
  · rw [h] at h1; cases h1
  · omega
theorem run_good {m : Mi} {l : List J} (h : millB m = true) (hl : l.length ≤ 99) : runR m l = runTo m l := by
  unfold runR
  rw [if_pos]
  simp [h, hl]
theorem run_valid {m : Mi} {l : List J} (h : millB m = true) (hl : l.length ≤ 99) : millB (runR m l).1 = true ∧ massR (runR m l).1 = massR m := by
  rw [run_good h hl]
  obtain ⟨h1, h2, -⟩ := run_v l (m, 0) (millB_iff.1 h)
  have h3 := millB_iff.2 h1
  refine ⟨h3, ?_⟩
  unfold massR
  rw [if_pos h, if_pos (show millB (runTo m l).1 = true from h3)]
  exact h2
end Go.Proofs.YtajjnciookhamaaGreat
