/-
  From a walk that leaves all old memory alone to the statement's own form; arguments that are slices of ints and of jobs, opened. No program in sight.
-/
import Derived.Test.YtbafifilklfafaaDoorBase
import Derived.ProofKit
import Derived.SizedLaws
import Derived.Deep.Slices
import Derived.Deep.Fields
import Derived.ChangeSame
namespace Go.Proofs.YtbafifilklfafaaDoor
open Go.ChangeShapes Go.WideShapes Go.Deep Go.RowKit

section
variable {H : Type} {enc : TypeId × Value → H} {P : Program}

/-- Every argument reads as it did. -/
theorem trodAll_stays {W W' : World} (hl : laidOutB P = true) (hb : Below W.heap.size W W') (sp : Nat → Bool) :
    ∀ {ts : List TypeId} {vs : List Value} {ds : List (DataW H)} {ps : List MemPlace}, (∀ t ∈ ts, P.readableRec t = true ∧ t < P.types.size) →
      DataW.TrodAll enc P W 0 (fun _ => true) true ts vs ds ps → (∀ x ∈ ps, x.block < W.heap.size) → (∀ x ∈ ps, sp x.block = true) → DataW.TrodAll enc P W' 0 sp true ts vs ds ps
  | [], _, _, _, _, h, _, _ => by
    obtain ⟨rfl, rfl, rfl⟩ := trodAll_nil h
    exact trodAll_mk0
  | t :: ts, _, _, _, hts, h, hlt, hsp => by
    obtain ⟨v, vs, d, ds, p, q, rfl, rfl, rfl, h1, h2⟩ := trodAll_cons h
    obtain ⟨r1, r2⟩ := hts t (by simp)
    refine trodAll_cons_mk (WideElems.Trod_stays hl r1 r2 h1 (fun x hx => hb.same (hlt x (List.mem_append_left _ hx))) (fun x hx => hsp x (List.mem_append_left _ hx))) ?_
    exact trodAll_stays hl hb sp (fun t ht => hts t (List.mem_cons_of_mem _ ht)) h2 (fun x hx => hlt x (List.mem_append_right _ hx)) (fun x hx => hsp x (List.mem_append_right _ hx))

/-- A law that answered true and left all old memory alone. -/
theorem law_post {f : Func} {s : ChangeSpec} {apart fresh handsOn again : Bool} {W W' : World} {args : Array Value} {ds gs : List (DataW H)} {before : List MemPlace} {tb : TypeId}
    (hl : laidOutB P = true) (hts : ∀ t ∈ f.params.toList, P.readableRec t = true ∧ t < P.types.size) (hr : f.resultTypes = #[tb]) (hbool : P.underlying tb = some .bool)
    (hv : s.vars = []) (hsf : s.fn H (ds ++ gs) = { results := [.lit (.bool true)], args := ds })
    (hW : DataW.Whole enc P f.params.toList s.vars apart W args.toList ds gs before) (hb : Below W.heap.size W W') :
    s.post enc P f apart fresh handsOn again W args (.bool true) W' := by
  have hlt : ∀ p ∈ before, p.block < W.heap.size := fun p hp => hW.lt p hp
  have hW0 := hW
  obtain ⟨p, q, hA, hV, rfl, hz, hn⟩ := hW
  rw [hv] at hV
  obtain ⟨rfl, rfl⟩ := trodVars_none hV
  simp only [List.append_nil] at hlt hW0
  have hargs : ∀ sp : Nat → Bool, (∀ x ∈ p, sp x.block = true) → DataW.TrodAll enc P W' 0 sp true f.params.toList args.toList (s.fn H (ds ++ [])).args p := fun sp hsp => by
    rw [hsf]
    exact trodAll_stays hl hb sp hts hA hlt hsp
  have hvars : ∀ sp : Nat → Bool, DataW.TrodVars enc P W' sp s.vars (s.fn H (ds ++ [])).vars [] := fun sp => by
    rw [hsf, hv]; rfl
  have hres : ∀ (b : Nat) (sp : Nat → Bool) (hd : Bool), DataW.TrodAll enc P W' b sp hd f.resultTypes.toList ((Value.bool true).resultList f.resultTypes.size) (s.fn H (ds ++ [])).results [] := fun b sp hd => by
    rw [hsf, hr]
    exact trodAll_mk1 (shut_bool hbool _)
  have hold : ∀ x ∈ p, (fun b => decide (b < W.heap.size)) x.block = true := fun x hx => by simpa using hlt x hx
  refine ⟨ds, [], p, [], p, [], hW0, hres _ _ _, hargs _ hold, hvars _, World.keptBut_mono (fun x hx => ⟨hx, ?_⟩) (hb.frame (· ∈ p)), fun _ => ?_⟩
  · exact Or.inr (Or.inl hx)
  · refine ⟨ok_one hr rfl (okWide_bool_mk hbool _), _, _, ([] ++ p) ++ [], ⟨[] ++ p, [], trodAll_append (hargs _ (fun _ _ => rfl)) (hres _ _ _), hvars _, rfl, ?_, ?_⟩, ?_⟩
    · intro b off hp
      have hin : MemPlace.cell b off ∈ p := by simpa using hp
      rw [hb.frozen (hlt _ hin)]
      exact hz b off (by simpa using hin)
    · intro ha
      have := hn ha
      simpa using this
    · intro x hx _
      simpa using hx

theorem wf64 {n : Int} (h : (Lit.int .i64 n).wf = true) : -9223372036854775808 ≤ n ∧ n ≤ 9223372036854775807 := by
  simp [Lit.wf, IntKind.min, IntKind.max, IntKind.signed, IntKind.bits] at h
  exact ⟨by omega, by omega⟩

theorem cell_spot {w : World} {a : Addr} {v : Value} (h : w.cell? a = some v) : a.spot = none ∧ a.block < w.heap.size := by
  unfold World.cell? at h
  split at h
  · rename_i c e m hb
    refine ⟨?_, ?_⟩
    · cases hs : a.spot with
      | none => rfl
      | some s => simp [hs] at h
    · obtain ⟨hlt, _⟩ := Array.getElem?_eq_some_iff.1 hb
      exact hlt
  · cases h

/-- An argument that is a slice of ints. -/
theorem open_intsAt {t e : TypeId} {w : World} {v : Value} {d : DataW H} {ps before : List MemPlace} (ht : P.underlying t = some (.slice e)) (he : P.underlying e = some (.int .i64)) (hc : P.cellsOf e = 1)
    (h : DataW.Trod enc P w 0 (fun _ => true) true t v d ps) (hvs : ∃ ao n c, v = .slice ao n c) (hz : w.noneFrozen before) (hp : ∀ x ∈ ps, x ∈ before) :
    ∃ xs : List Int, IntsAt 0 w.heap.size w v xs ∧ ∀ x ∈ xs, -9223372036854775808 ≤ x ∧ x ≤ 9223372036854775807 := by
  obtain ⟨ao, n0, c0, rfl⟩ := hvs
  obtain ⟨fuel, hf⟩ := h
  rcases open_slice1 ht hc hf with ⟨hcs, hx⟩ | ⟨a, len, cap, m, n, V, D, Pl, hcs, hb, hl, hm, hmm, hx, hi⟩
  · simp only [Value.cells, List.cons.injEq, and_true] at hcs
    rw [hcs]
    exact ⟨[], ⟨none, 0, rfl, Nat.le_refl _, by omega, Nat.le_refl _, fun h => absurd h (Nat.not_lt_zero _)⟩, by simp⟩
  · simp only [Value.cells, List.cons.injEq, and_true] at hcs
    rw [hcs]
    simp only [↓reduceIte] at hmm
    subst hmm
    simp only [Prod.mk.injEq] at hx
    have hint : ∀ i, i < m → ∃ x : Int, V i = .int .i64 x ∧ -9223372036854775808 ≤ x ∧ x ≤ 9223372036854775807 := fun i him => by
      obtain ⟨_, ht'⟩ := hi i him
      obtain ⟨x, e1, _, e3⟩ := DataW.trod_int he ht'
      simp only [List.cons.injEq, and_true] at e1
      exact ⟨x, e1, wf64 e3⟩
    obtain ⟨X, hX⟩ := choose_lt hint
    refine ⟨(List.range len).map X, ⟨some a, m, by simp, by simpa using hl, by unfold maxLen at hm; omega, Nat.le_refl _, fun hn => ?_⟩, ?_⟩
    · have hn' : 0 < len := by simpa using hn
      obtain ⟨h0, _⟩ := hi 0 (by omega)
      have ha0 : a.add 0 = a := by simp [Addr.add]
      rw [ha0] at h0
      obtain ⟨hs, hblt⟩ := cell_spot h0
      obtain ⟨b, o, sp⟩ := a
      simp only at hs hblt
      subst hs
      refine ⟨b, o, rfl, Nat.zero_le _, hblt, fun i hi' => ?_⟩
      have hi'' : i < len := by simpa using hi'
      obtain ⟨h1, _⟩ := hi i (by omega)
      have hadd : (⟨b, o, none⟩ : Addr).add i = ⟨b, o + i, none⟩ := by
        unfold Addr.add
        split
        · next h => subst h; rfl
        · rfl
      rw [hadd] at h1
      refine ⟨by rw [h1, (hX i (by omega)).1]; simp, ?_⟩
      refine hz b (o + i) (hp _ ?_)
      rw [hx.2]
      exact List.mem_append_left _ (MemPlace.mem_row.2 ⟨i, by omega, rfl⟩)
    · intro x hx'
      obtain ⟨i, hi', rfl⟩ := List.mem_map.1 hx'
      exact (hX i (by have := List.mem_range.1 hi'; omega)).2

/-- An argument that is a slice of structs of three ints. -/
theorem open_jobsAt {t e : TypeId} {f0 f1 f2 : Field} {w : World} {v : Value} {d : DataW H} {ps before : List MemPlace} (ht : P.underlying t = some (.slice e)) (he : P.underlying e = some (.struct #[f0, f1, f2])) (hone : oneCellFields P #[f0, f1, f2] = true) (hc : P.cellsOf e = 3)
    (t0 : P.underlying f0.type = some (.int .i64)) (t1 : P.underlying f1.type = some (.int .i64)) (t2 : P.underlying f2.type = some (.int .i64))
    (h : DataW.Trod enc P w 0 (fun _ => true) true t v d ps) (hvs : ∃ ao n c, v = .slice ao n c) (hz : w.noneFrozen before) (hp : ∀ x ∈ ps, x ∈ before) :
    ∃ js : List J, JobsAt 0 w.heap.size w v js ∧ ∀ j ∈ js, (-9223372036854775808 ≤ j.s ∧ j.s ≤ 9223372036854775807) ∧ (-9223372036854775808 ≤ j.d ∧ j.d ≤ 9223372036854775807) ∧ (-9223372036854775808 ≤ j.g ∧ j.g ≤ 9223372036854775807) := by
  obtain ⟨ao, n0, c0, rfl⟩ := hvs
  obtain ⟨fuel, hf⟩ := h
  rcases open_slice ht hf with ⟨hcs, hx⟩ | ⟨a, len, cap, m, n, D, Pl, hcs, hb, hl, hm, hmm, hx, hi⟩
  · simp only [Value.cells, List.cons.injEq, and_true] at hcs
    rw [hcs]
    exact ⟨[], ⟨none, 0, rfl, Nat.le_refl _, by omega, Nat.le_refl _, fun h => absurd h (Nat.not_lt_zero _)⟩, by simp⟩
  · simp only [Value.cells, List.cons.injEq, and_true] at hcs
    rw [hcs]
    simp only [↓reduceIte] at hmm
    subst hmm
    simp only [Prod.mk.injEq] at hx
    rw [hc] at hx hi
    have hint : ∀ i, i < m → ∃ j : J, (w.cell? (a.add (i * 3)) = some (.int .i64 j.s) ∧ w.cell? (a.add (i * 3 + 1)) = some (.int .i64 j.d) ∧ w.cell? (a.add (i * 3 + 2)) = some (.int .i64 j.g)) ∧
        (-9223372036854775808 ≤ j.s ∧ j.s ≤ 9223372036854775807) ∧ (-9223372036854775808 ≤ j.d ∧ j.d ≤ 9223372036854775807) ∧ (-9223372036854775808 ≤ j.g ∧ j.g ≤ 9223372036854775807) := fun i him => by
      obtain ⟨cs', hcc, ht'⟩ := hi i him
      obtain ⟨ys, n', hn', hy, hlen, hyl, hfl⟩ := DataW.trod_struct he ht'
      obtain ⟨_, hcl, hat⟩ := World.cells?_some hcc
      match cs', hcl with
      | [c0, c1, c2], _ =>
        obtain ⟨o0, k0⟩ := hone_of hone 0 f0 rfl
        obtain ⟨o1, k1⟩ := hone_of hone 1 f1 rfl
        obtain ⟨o2, k2⟩ := hone_of hone 2 f2 rfl
        have a0 := hat 0 (by omega)
        have a1 := hat 1 (by omega)
        have a2 := hat 2 (by omega)
        have g0 := hfl 0 f0 rfl
        have g1 := hfl 1 f1 rfl
        have g2 := hfl 2 f2 rfl
        simp only [o0, k0, o1, k1, o2, k2, List.drop_zero, List.drop_succ_cons, List.take_succ_cons, List.take_zero] at g0 g1 g2
        match ys, hyl with
        | [y0, y1, y2], _ =>
          obtain ⟨x0, e0, _, w0⟩ := DataW.trod_int t0 (by simpa using g0)
          obtain ⟨x1, e1, _, w1⟩ := DataW.trod_int t1 (by simpa using g1)
          obtain ⟨x2, e2, _, w2⟩ := DataW.trod_int t2 (by simpa using g2)
          simp only [List.cons.injEq, and_true] at e0 e1 e2
          subst e0 e1 e2
          rw [add_add] at a0 a1 a2
          exact ⟨⟨x0, x1, x2⟩, ⟨by simpa using a0, by simpa using a1, by simpa using a2⟩, wf64 w0, wf64 w1, wf64 w2⟩
    have : Inhabited J := ⟨⟨0, 0, 0⟩⟩
    obtain ⟨X, hX⟩ := choose_lt hint
    refine ⟨(List.range len).map X, ⟨some a, m, by simp, by simpa using hl, by unfold maxLen at hm; omega, Nat.le_refl _, fun hn => ?_⟩, ?_⟩
    · have hn' : 0 < len := by simpa using hn
      obtain ⟨⟨h0, _⟩, _⟩ := hX 0 (by omega)
      have ha0 : a.add (0 * 3) = a := by simp [Addr.add]
      rw [ha0] at h0
      obtain ⟨hs, hblt⟩ := cell_spot h0
      obtain ⟨b, o, sp⟩ := a
      simp only at hs hblt
      subst hs
      have hadd : ∀ i, (⟨b, o, none⟩ : Addr).add i = ⟨b, o + i, none⟩ := fun i => by
        unfold Addr.add
        split
        · next h => subst h; rfl
        · rfl
      refine ⟨b, o, rfl, Nat.zero_le _, hblt, fun i hi' => ?_⟩
      have hi'' : i < len := by simpa using hi'
      obtain ⟨⟨h1, h2, h3⟩, _⟩ := hX i (by omega)
      rw [hadd] at h1 h2 h3
      have hfr : ∀ k, k < m * 3 → w.frozen? ⟨b, o + k, none⟩ = false := fun k hk => by
        refine hz b (o + k) (hp _ ?_)
        rw [hx.2]
        exact List.mem_append_left _ (MemPlace.mem_row.2 ⟨k, by omega, rfl⟩)
      refine ⟨⟨by rw [h1]; simp, by rw [show o + i * 3 + 1 = o + (i * 3 + 1) by omega, h2]; simp, by rw [show o + i * 3 + 2 = o + (i * 3 + 2) by omega, h3]; simp⟩, hfr _ (by omega), ?_, ?_⟩
      · rw [show o + i * 3 + 1 = o + (i * 3 + 1) by omega]; exact hfr _ (by omega)
      · rw [show o + i * 3 + 2 = o + (i * 3 + 2) by omega]; exact hfr _ (by omega)
    · intro x hx'
      obtain ⟨i, hi', rfl⟩ := List.mem_map.1 hx'
      exact (hX i (by have := List.mem_range.1 hi'; omega)).2
end

theorem and2 {a b : Bool} (h1 : a = true) (h2 : b = true) : (a && b) = true := by rw [h1, h2]; rfl

/-- The closed facts of a row, in pieces: the three great ones are the program's own and are proved once. -/
theorem joined_of {P : Program} {f : FuncId} {fn : Func} {s : ChangeSpec} {c : OpenClaim}
    (a : (c.wf (OpenSpec.ofChange s) && laidOutB P && mapsRowed P && fn.params.all (P.readableRec ·) && namedTie P c.named s.vars && (c.stops == []) && (P.stops == []) && (c.knobs == []) && (P.stopKnobs == [])) = true)
    (b1 : (c.inPlace == P.inPlace f) = true) (b2 : (c.unfollowed == P.unfollowed f) = true) (b3 : (c.recurses == P.recurses f) = true) (b4 : (c.named == P.varsNamed f) = true)
    (d1 : ((c.maps == (fn.params.toList ++ s.plain.varTypes P).any (P.mapsRec ·)) && (c.ifaces == (fn.params.toList ++ s.plain.varTypes P).any (P.ifacesRec ·)) && (c.mapsOut == P.mapsAmong fn.resultTypes.toList) &&
      (c.loops == (fn.params.toList ++ s.plain.varTypes P).any (P.loopsFrom ·)) && (c.wideKeys == (fn.params.toList ++ s.plain.varTypes P ++ fn.resultTypes.toList).any (P.wideKeysFrom ·))) = true)
    (d2 : (s.vars.all (P.varReadable ·) && fn.resultTypes.all (fun t => P.readableRec t && decide (t < P.types.size)) && (c.ifacesOut == fn.resultTypes.toList.any (P.ifacesRec ·)) && (c.loopsOut == fn.resultTypes.toList.any (P.loopsFrom ·)) && (c.plainKeys == P.plainKeys) && c.shortTexts.isNone && P.stopsHeard) = true)
    (may : P.mayEnter = true) (lifts : (c.lifted == P.liftsFinal) = true) (make : (P.make == some c.make) = true)
    (e : ((c.kinds == (if c.domain.isEmpty then [] else fn.params.toList.map fun t => match P.underlying t with | some (.int k) => some k | _ => none)) && (c.pinned == c.pinnedBy) &&
      (c.veiled == (fn.params.toList ++ s.plain.varTypes P ++ fn.resultTypes.toList).any (P.veiledRec ·)) && c.veiledFits P fn.params.toList (fn.params.toList ++ s.plain.varTypes P ++ fn.resultTypes.toList)) = true) :
    joinedFacts P f fn s c = true := by
  unfold joinedFacts
  rw [Bool.and_eq_true, Bool.and_eq_true, Bool.and_eq_true] at e
  obtain ⟨⟨⟨e1, e2⟩, e3⟩, e4⟩ := e
  rw [Bool.and_eq_true, Bool.and_eq_true, Bool.and_eq_true, Bool.and_eq_true] at d1
  obtain ⟨⟨⟨⟨d11, d12⟩, d13⟩, d14⟩, d15⟩ := d1
  rw [Bool.and_eq_true, Bool.and_eq_true, Bool.and_eq_true, Bool.and_eq_true, Bool.and_eq_true, Bool.and_eq_true] at d2
  obtain ⟨⟨⟨⟨⟨⟨d21, d22⟩, d23⟩, d24⟩, d25⟩, d26⟩, d27⟩ := d2
  exact and2 (and2 (and2 (and2 (and2 (and2 (and2 (and2 (and2 (and2 (and2 (and2 (and2 (and2 (and2 (and2 (and2 (and2 (and2 (and2 (and2 (and2 (and2 a b1) b2) b3) b4) d11) d12) d13) d14) d15) d21) d22) d23) d24) d25) d26) d27) may) lifts) make) e1) e2) e3) e4
end Go.Proofs.YtbafifilklfafaaDoor
