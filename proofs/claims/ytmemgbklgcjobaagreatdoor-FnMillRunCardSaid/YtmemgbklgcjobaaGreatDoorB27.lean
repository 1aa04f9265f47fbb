/-
  Parts of the proofs over mills, of: Spot, MethS, CutW, CutN, MethR, Alive, TextA, TextB, TextC, TextD, TextE, PlainJ, JournA, SepG, CardD. Conditions: each theorem states its own.
-/
import Derived.Lib.ItoaLen
import Derived.Deep.RegionHeld3
import Derived.Lib.AppendIntMem
import Derived.Test.YtmemgbklgcjobaaGreatDoorCards
import Derived.Test.YtmemgbklgcjobaaGreatDoorTie
import Derived.Deep.DeepHandedRow
import Derived.LaidMore
import Derived.Test.YtmemgbklgcjobaaGreatDoorB19
import Derived.Test.YtmemgbklgcjobaaGreatDoorB23
set_option linter.unusedSimpArgs false
set_option linter.unusedVariables false
set_option maxRecDepth 10000
namespace Go.Proofs.YtmemgbklgcjobaaGreatDoor
open Go.RowKit
theorem spotN_spec (n : Int) (w : World) (h1 : 0 ≤ n) (h2 : n ≤ 9223372036854775807) :
    Calls Tryz.prog 116 #[.int .i64 n] w fun e w' => e = .returned (.agg #[.bool (spotTop n), .int .i64 (spotPlace n)]) ∧ Below w.heap.size w w' := by
  have hneg : ¬ n < 0 := by omega
  go_enter Tryz.func116, Tryz.ntmps116
  go_wp2
  go_returns
  exact ⟨by simp [spotTop, spotPlace, hneg] <;> omega, by go_grown⟩
theorem shipD_no1 {m : Mi} {id : Int} (h : findR m.low m.high id = none) : shipD m id = none := by simp [shipD, h]
theorem shipD_no2 {m : Mi} {id p : Int} {t : Bool} {q : List Int × List Int} (h : findR m.low m.high id = some (t, p)) (h2 : takeR m.low m.high t p = (q, 0)) : shipD m id = none := by simp [shipD, h, h2]
theorem shipD_yes {m : Mi} {id p x : Int} {t : Bool} {q : List Int × List Int} (h : findR m.low m.high id = some (t, p)) (h2 : takeR m.low m.high t p = (q, x)) (hx : x ≠ 0) : shipD m id = some { m with low := q.1, high := q.2, pieces := setS m.pieces id 2 } := by simp [shipD, h, h2, hx]
theorem many_sums {L : Nat} {a b : Int} (h : lensB a b = true) : 0 ≤ (many0 L a b : Int) * a ∧ 0 ≤ (many1 L a b : Int) * b ∧ (many0 L a b : Int) * a + (many1 L a b : Int) * b ≤ L := by
  obtain ⟨⟨h1, h2⟩, h3, h4⟩ := lensB_iff.1 h
  obtain ⟨-, e0⟩ := many_le h (show (0 : Int) ≤ L by omega)
  exact ⟨Int.mul_nonneg (by omega) (by omega), Int.mul_nonneg (by omega) (by omega), e0⟩
theorem tdiv_ge {n : Nat} {x y : Int} (hx : 0 ≤ x) (hy : 1 ≤ y) (h : (n : Int) * y ≤ x) (hl : x ≤ 60) : (n : Int) ≤ x.tdiv y ∧ 0 ≤ x.tdiv y ∧ x.tdiv y ≤ 60 := by
  rw [Int.tdiv_eq_ediv_of_nonneg hx]
  have h1 : (n : Int) ≤ x / y := Int.le_ediv_of_mul_le (by omega) h
  have h2 : x / y ≤ x := Int.ediv_le_self _ hx
  have h3 : 0 ≤ x / y := Int.ediv_nonneg hx (by omega)
  omega
set_option maxHeartbeats 1600000 in
theorem cutWaste_spec (v mv : Value) (a b : Int) (lo hi lo2 hi2 L : Nat) (hL : L ≤ 60) (hv : lensB a b = true) (w : World) (H : IntsAt lo hi w v [a, b]) (H2 : IntsAt lo2 hi2 w mv (manyL L a b)) :
    Calls Tryz.prog 173 #[.int .i64 (L : Int), v, mv] w fun e w' => e = .returned (.int .i64 (wasteR L a b)) ∧ Below w.heap.size w w' := by
  have HV := hide hv
  obtain ⟨⟨ha1, ha2⟩, hb1, hb2⟩ := lensB_iff.1 hv
  obtain ⟨hs0, hs1, hs2⟩ := many_sums (L := L) hv
  have hlen := lens_spec v a b lo hi w H
  rw [hv] at hlen
  have HLN := hide hlen
  have HH := hide H
  have HH2 := hide H2
  obtain ⟨b0, o0, cap, rfl, -, -, -, -⟩ := two_at H
  have hR : wasteR L a b = L - many0 L a b * a - many1 L a b * b := rfl
  unfold manyL at H2 HH2
  obtain ⟨n0, hn0e⟩ : ∃ n : Nat, many0 L a b = n := ⟨_, rfl⟩
  obtain ⟨n1, hn1e⟩ : ∃ n : Nat, many1 L a b = n := ⟨_, rfl⟩
  rw [hn0e, hn1e] at H2 HH2 hR
  rw [hn0e] at hs0 hs2
  rw [hn1e] at hs1 hs2
  obtain ⟨b2, o2, cap2, rfl, -, -, -, -⟩ := two_at H2
  obtain ⟨d1, d2, d3⟩ := tdiv_ge (n := n0) (x := (L : Int)) (y := a) (by omega) ha1 (by omega) (by omega)
  obtain ⟨q0, hq0e⟩ : ∃ q, (L : Int).tdiv a = q := ⟨_, rfl⟩
  rw [hq0e] at d1 d2 d3
  obtain ⟨p0, hp0⟩ : ∃ p, (n0 : Int) * a = p := ⟨_, rfl⟩
  rw [hp0] at hs0 hs2
  obtain ⟨e1, e2, e3⟩ := tdiv_ge (n := n1) (x := (L : Int) - p0) (y := b) (by omega) (by omega) (by omega) (by omega)
  obtain ⟨q1, hq1e⟩ : ∃ q, ((L : Int) - p0).tdiv b = q := ⟨_, rfl⟩
  rw [hq1e] at e1 e2 e3
  obtain ⟨p1, hp1⟩ : ∃ p, (n1 : Int) * b = p := ⟨_, rfl⟩
  rw [hp1] at hs1 hs2
  have hR2 : wasteR L a b = L - p0 - p1 := by rw [hR, hp0, hp1]
  rw [hR2]
  have hq := fun W => l1In_any (L : Int) 0 60 W
  rw [show wi (L : Int) 0 60 = true from wi_iff.2 (by omega)] at hq
  have hq0 := fun W => l1In_any (n0 : Int) 0 q0 W
  rw [show wi (n0 : Int) 0 q0 = true from wi_iff.2 (by omega)] at hq0
  have hq1 := fun W => l1In_any (n1 : Int) 0 q1 W
  rw [show wi (n1 : Int) 0 q1 = true from wi_iff.2 (by omega)] at hq1
  have HQ := hide hq
  have HQ0 := hide hq0
  have HQ1 := hide hq1
  have w0 : IntKind.i64.wrap ((n0 : Int) * a) = p0 := by rw [hp0]; exact IntWalk.i64_in _ (by omega)
  have w1 : IntKind.i64.wrap ((n1 : Int) * b) = p1 := by rw [hp1]; exact IntWalk.i64_in _ (by omega)
  have w2 : IntKind.i64.wrap ((L : Int) - p0) = (L : Int) - p0 := IntWalk.i64_in _ (by omega)
  have w3 : IntKind.i64.wrap ((L : Int) - p0 - p1) = (L : Int) - p0 - p1 := IntWalk.i64_in _ (by omega)
  have w4 : IntKind.i64.wrap q0 = q0 := IntWalk.i64_in _ (by omega)
  have w5 : IntKind.i64.wrap q1 = q1 := IntWalk.i64_in _ (by omega)
  have hne0 : (a == 0) = false := by rw [beq_eq_false_iff_ne]; omega
  have hne1 : (b == 0) = false := by rw [beq_eq_false_iff_ne]; omega
  clear hn0e hn1e hR hR2 hp0 hp1 H H2 hlen hq hq0 hq1 hv
  go_enter Tryz.func173, Tryz.ntmps173
  go_wp2_with fail
  refine HLN.out.mono ?_
  rintro e wa ⟨rfl, hb⟩
  have HB := hide hb
  clear hb
  go_wp2_with fail
  refine (HQ.out wa).mono ?_
  rintro e wb ⟨rfl, rfl⟩
  go_wp2_with fail
  go_loopw [7, 8] (fun x i wr => Below w.heap.size w wr ∧ ((i = .int .i64 0 ∧ x = .int .i64 (L : Int)) ∨ (i = .int .i64 1 ∧ x = .int .i64 ((L : Int) - p0)) ∨ (i = .int .i64 2 ∧ x = .int .i64 ((L : Int) - p0 - p1)))) (fun _ i _ => 2 - (intOf i).toNat)
  case atStart => exact ⟨HB.out, .inl ⟨rfl, rfl⟩⟩
  case round =>
    obtain ⟨hb, hcase⟩ := hrel
    obtain ⟨b1, o1, cap1, e1, -, -, c0, c1⟩ := two_at (HH.out.below hb)
    cases e1
    obtain ⟨b3, o3, cap3, e3, -, -, m0, m1⟩ := two_at (HH2.out.below hb)
    cases e3
    have HBr := hide hb
    clear hb
    rcases hcase with ⟨rfl, rfl⟩ | ⟨rfl, rfl⟩ | ⟨rfl, rfl⟩
    · go_wp2_with fail
      go_quiet ((go_at_call 68; exact quiet_left (HQ0.out _)))
      go_wp2_with fail
      go_quiet (fail)
      go_wp2_with fail
      go_roundw
      case rel => exact ⟨below_drewN HBr.out _, .inr (.inl ⟨rfl, rfl⟩)⟩
      case measure => simp [intOf]
    · go_wp2_with fail
      go_quiet ((go_at_call 68; exact quiet_left (HQ1.out _)))
      go_wp2_with fail
      go_quiet (fail)
      go_wp2_with fail
      go_roundw
      case rel => exact ⟨below_drewN HBr.out _, .inr (.inr ⟨rfl, rfl⟩)⟩
      case measure => simp [intOf]
    · go_wp2_with fail
      go_ret
      exact ⟨rfl, HBr.out⟩
theorem cutBest_no (v : Value) (a b : Int) (lo hi L : Nat) (hL : L ≤ 60) (hv : lensB a b = false) (w : World) (H : IntsAt lo hi w v [a, b]) :
    Calls Tryz.prog 172 #[.int .i64 (L : Int), v] w fun e w' => ∃ g, e = .returned (.slice (some ⟨g, 0, none⟩) 0 0) ∧ Below w.heap.size w w' := by
  have HC := hide (cutLeast_spec v a b lo hi L hL w H)
  obtain ⟨b0, o0, cap, rfl, h1, h2, -, -⟩ := two_at H
  clear H
  go_enter Tryz.func172, Tryz.ntmps172
  go_wp2_with fail
  refine HC.out.mono ?_
  rintro e w0 ⟨x, rfl, hx, -, hb0⟩
  obtain rfl := hx hv
  have HB := hide hb0
  clear hb0
  go_wp2_with fail
  go_ret
  exact ⟨_, rfl, by have := HB.out; first | exact this.alloc this.size _ | go_grown⟩
theorem rollD_no1 {m : Mi} {id n : Int} (h : ¬ 0 ≤ n) : rollD m id n = none := by simp [rollD, h]
theorem rollD_no2 {m : Mi} {id n : Int} (h : hasB m id 0 = false) : rollD m id n = none := by simp [rollD, h]
theorem rollD_no3 {m : Mi} {id n : Int} (h : (putR m.low m.high (spotTop n) (spotPlace n) id).2 = false) : rollD m id n = none := by simp [rollD, h]
theorem rollD_yes {m : Mi} {id n : Int} {q : List Int × List Int} (h1 : 0 ≤ n) (h2 : hasB m id 0 = true) (h : putR m.low m.high (spotTop n) (spotPlace n) id = (q, true)) : rollD m id n = some { m with low := q.1, high := q.2, pieces := setS m.pieces id 1 } := by simp [rollD, h, h1, h2]
theorem mixTons_23 (b : Nat) (w : World) (h0 : w.cell? ⟨b, 0, none⟩ = some (.int .i64 2)) (h1 : w.cell? ⟨b, 1, none⟩ = some (.int .i64 3)) :
    Calls Tryz.prog 71 #[.slice (some ⟨b, 0, none⟩) 2 2] w fun e w' => e = .returned (.int .i64 5) ∧ w = w' := by
  go_enter Tryz.func71, Tryz.ntmps71
  go_wp2
  go_loop [3, 8] (fun s i => ∃ k : Nat, k ≤ 2 ∧ i = .int .i64 k ∧ s = .int .i64 (if k = 0 then 0 else if k = 1 then 2 else 5)) (fun _ i => 2 - (intOf i).toNat)
  case atStart => exact ⟨0, Nat.zero_le _, rfl, rfl⟩
  case round =>
    obtain ⟨k, hk, rfl, rfl⟩ := hrel
    have hk3 : k = 0 ∨ k = 1 ∨ k = 2 := by omega
    rcases hk3 with rfl | rfl | rfl
    · go_wp2
      go_round
      case rel => exact ⟨1, by omega, rfl, rfl⟩
      case measure => simp [intOf]
    · go_wp2
      go_round
      case rel => exact ⟨2, by omega, rfl, rfl⟩
      case measure => simp [intOf]
    · go_wp2
      go_ret
      exact ⟨rfl, rfl⟩
theorem gradeValid_5 (w : World) :
    Calls Tryz.prog 83 #[.agg #[.int .i64 5, .int .i64 0, .int .i64 0, .int .i64 0, .int .i64 0, .int .i64 0]] w fun e w' => e = .returned (.bool false) ∧ Below w.heap.size w w' := by
  have e1 : wi 5 0 999 = true := rfl
  have e2 : wi 0 5 999 = false := rfl
  go_enter Tryz.func83, Tryz.ntmps83
  go_wp2_with (go_at_call 79; refine (within_any _ _ _ _).mono ?_; rintro e w' ⟨rfl, rfl⟩)
  all_goals
    go_ret
    exact ⟨rfl, by go_grown⟩
theorem gradeText_5 (w : World) :
    Calls Tryz.prog 72 #[.agg #[.int .i64 5, .int .i64 0, .int .i64 0, .int .i64 0, .int .i64 0, .int .i64 0]] w fun e w' => e = .returned (.string ⟨#[]⟩) ∧ Below w.heap.size w w' := by
  go_enter Tryz.func72, Tryz.ntmps72
  go_wp2_with fail
  refine (gradeValid_5 _).mono ?_
  rintro e w1 ⟨rfl, hb⟩
  go_wp2_with fail
  go_ret
  exact ⟨rfl, Below.step ((Below.refl _ _).alloc (Nat.le_refl _) _) hb (Nat.le_refl _)⟩
theorem alive_any (w : World) : Calls Tryz.prog 20 #[] w fun e w' => e = .returned (.bool true) ∧ Below w.heap.size w w' := by
  go_enter Tryz.func20, Tryz.ntmps20
  go_wp2_with fail
  refine (mixTons_23 _ _ (by simp [go_sem]) (by simp [go_sem])).mono ?_
  rintro e w1 ⟨rfl, rfl⟩
  go_wp2_with fail
  refine (gradeText_5 _).mono ?_
  rintro e w1 ⟨rfl, hb⟩
  go_wp2_with fail
  go_ret
  exact ⟨rfl, Below.step ((Below.refl _ _).alloc (Nat.le_refl _) _) hb (Nat.le_refl _)⟩
def nameB (k : Int) : ByteArray :=
  if k == 0 then ⟨#[109, 101, 108, 116]⟩ else if k == 1 then ⟨#[99, 117, 116]⟩ else if k == 2 then ⟨#[114, 111, 108, 108]⟩ else if k == 3 then ⟨#[108, 105, 102, 116]⟩ else if k == 4 then ⟨#[115, 104, 105, 112]⟩ else ⟨#[]⟩
def twoB (k : Int) : Bool := k == 1 || k == 2 || k == 3
def spB : ByteArray := ⟨#[32]⟩
def NamesIs (w : World) : Prop := w.var? Tryz.prog "loop.example/steelmill/impl.deedNames" = some #[.string (nameB 0), .string (nameB 1), .string (nameB 2), .string (nameB 3), .string (nameB 4)]
theorem g_names : Tryz.prog.globalNamed "loop.example/steelmill/impl.deedNames" = some 0 := by kernel_rfl
theorem NamesIs.cell {w : World} (h : NamesIs w) (m : Nat) (hm : m ≤ 4) : w.cell? ⟨0, m, none⟩ = some (.string (nameB m)) := by
  unfold NamesIs World.var? at h
  rw [g_names] at h
  simp only [Option.bind_some] at h
  split at h
  · rename_i cs t fr e
    simp only [Option.some.injEq] at h
    subst h
    have : m = 0 ∨ m = 1 ∨ m = 2 ∨ m = 3 ∨ m = 4 := by omega
    rcases this with rfl | rfl | rfl | rfl | rfl <;> simp [World.cell?, e]
  · cases h
theorem NamesIs.size {w : World} (h : NamesIs w) : 0 < w.heap.size := by
  have := h.cell 0 (by omega)
  rcases Nat.lt_or_ge 0 w.heap.size with h' | h'
  · exact h'
  · simp [World.cell?, Array.getElem?_eq_none h'] at this
def rdGo : Int → List UInt8 → Option Int
  | n, [] => some n
  | n, b :: l => if b.toNat < 48 ∨ 57 < b.toNat then none else if 9999 < 10 * n + ((b.toNat : Int) - 48) then none else rdGo (10 * n + ((b.toNat : Int) - 48)) l
def rdNum (s : ByteArray) : Option Int :=
  if s.size = 0 then none else if (s.data.toList.headD 0).toNat = 48 ∧ 1 < s.size then none else rdGo 0 s.data.toList
theorem size_len (s : ByteArray) : s.data.toList.length = s.size := Array.length_toList
def kindB (s : ByteArray) : Int := if s = nameB 0 then 0 else if s = nameB 1 then 1 else if s = nameB 2 then 2 else if s = nameB 3 then 3 else if s = nameB 4 then 4 else -1
def partsB (s : ByteArray) : List ByteArray := Lib.splitB spB 0 (Lib.countB s spB) s
def rdI (L : List ByteArray) : Option (Int × Int × Int) :=
  let k := kindB (L.getD 0 ⟨#[]⟩)
  if k < 0 then none else if L.length ≠ (if twoB k then 3 else 2) then none else
    match rdNum (L.getD 1 ⟨#[]⟩) with
    | none => none
    | some n => if twoB k then (match rdNum (L.getD 2 ⟨#[]⟩) with | none => none | some m => some (k, n, m)) else some (k, n, 0)
def StrsAt (w : World) (b : Nat) (L : List ByteArray) : Prop := b < w.heap.size ∧ ∀ i (h : i < L.length), w.cell? ⟨b, i, none⟩ = some (.string L[i])
def OwnStr (base : Nat) (w : World) (v : Value) (xs : List ByteArray) : Prop :=
  (∃ g cap, v = .slice (some ⟨g, 0, none⟩) xs.length cap ∧ xs.length ≤ cap ∧ cap ≤ 9223372036854775807) ∧ w.ownsRow base 9 1 v xs.length (xs.map Value.string)
theorem OwnStr.new (base : Nat) (w : World) (hb : base ≤ w.heap.size) : OwnStr base (w.alloc (.cells #[] 9)) (.slice (some ⟨w.heap.size, 0, none⟩) 0 0) [] := by
  refine ⟨⟨_, _, rfl, Nat.le_refl _, by simp⟩, ?_⟩
  have := World.ownsRow_lit (e := 9) (size := 1) w #[] 0 hb (by unfold maxLen; omega) (by simp)
  simpa using this
theorem OwnStr.strs {base : Nat} {w : World} {v : Value} {xs : List ByteArray} (h : OwnStr base w v xs) : ∃ g cap, v = .slice (some ⟨g, 0, none⟩) xs.length cap ∧ xs.length ≤ cap ∧ cap ≤ 9223372036854775807 ∧ base ≤ g ∧ StrsAt w g xs := by
  obtain ⟨⟨g, cap, rfl, hc1, hc2⟩, ho⟩ := h
  have hlt := ho.lt g rfl
  refine ⟨g, cap, rfl, hc1, hc2, hlt.1, hlt.2, fun i hi => ?_⟩
  rcases ho.2 with ⟨e, _⟩ | ⟨g', cap', cur, e, _, hb, _, _, h3, h4⟩
  · cases e
  · simp only [Value.slice.injEq, Option.some.injEq, Addr.mk.injEq] at e
    obtain ⟨⟨rfl, -, -⟩, -, rfl⟩ := e
    rw [Go.Joins.cell_of_block hb]
    have h5 := congrArg (·[i]?) h4
    simp only [List.getElem?_map, List.getElem?_eq_getElem hi, Nat.mul_one, Option.map_some] at h5
    rw [List.getElem?_take_of_lt (by omega)] at h5
    simpa using h5
structure RdSt (w0 w : World) (r D g : Nat) (xs : List ByteArray) (k o t : Int) : Prop where
  r0 : w.cell? ⟨r, 0, none⟩ = some (.int .i64 0)
  r1 : w.cell? ⟨r, 1, none⟩ = some (.int .i64 0)
  r2 : w.cell? ⟨r, 2, none⟩ = some (.int .i64 0)
  fr0 : w.frozen? ⟨r, 0, none⟩ = false
  fr1 : w.frozen? ⟨r, 1, none⟩ = false
  fr2 : w.frozen? ⟨r, 2, none⟩ = false
  d0 : w.cell? ⟨D, 0, none⟩ = some (.int .i64 k)
  d1 : w.cell? ⟨D, 1, none⟩ = some (.int .i64 o)
  d2 : w.cell? ⟨D, 2, none⟩ = some (.int .i64 t)
  fd0 : w.frozen? ⟨D, 0, none⟩ = false
  fd1 : w.frozen? ⟨D, 1, none⟩ = false
  fd2 : w.frozen? ⟨D, 2, none⟩ = false
  strs : StrsAt w g xs
  lr : r < w.heap.size
  ld : D < w.heap.size
  ne : r ≠ D
  ng : g ≠ D
  br : w0.heap.size ≤ r
  bd : w0.heap.size ≤ D
  below : Below w0.heap.size w0 w
theorem RdSt.step {w0 w w' : World} {r D g : Nat} {xs : List ByteArray} {k o t : Int} (h : RdSt w0 w r D g xs k o t) (hb : Below w.heap.size w w') : RdSt w0 w' r D g xs k o t :=
  ⟨by rw [hb.cell h.lr]; exact h.r0, by rw [hb.cell h.lr]; exact h.r1, by rw [hb.cell h.lr]; exact h.r2, by rw [hb.frozen h.lr]; exact h.fr0, by rw [hb.frozen h.lr]; exact h.fr1, by rw [hb.frozen h.lr]; exact h.fr2,
    by rw [hb.cell h.ld]; exact h.d0, by rw [hb.cell h.ld]; exact h.d1, by rw [hb.cell h.ld]; exact h.d2, by rw [hb.frozen h.ld]; exact h.fd0, by rw [hb.frozen h.ld]; exact h.fd1, by rw [hb.frozen h.ld]; exact h.fd2,
    ⟨Nat.lt_of_lt_of_le h.strs.1 hb.size, fun i hi => by rw [hb.cell h.strs.1]; exact h.strs.2 i hi⟩, Nat.lt_of_lt_of_le h.lr hb.size, Nat.lt_of_lt_of_le h.ld hb.size, h.ne, h.ng, h.br, h.bd, Below.step h.below hb (Nat.le_refl _)⟩
def rdL (l : List UInt8) : Option J := (rdI (partsB ⟨l.toArray⟩)).map fun (k, o, t) => ⟨k, o, t⟩
def rjGo : Nat → List UInt8 → List J × Nat
  | 0, _ => ([], 0)
  | f + 1, l => if 10 ∈ l then (match rdL (l.takeWhile (· != 10)) with
      | none => ([], 0)
      | some d => (d :: (rjGo f (l.drop ((l.takeWhile (· != 10)).length + 1))).1, (l.takeWhile (· != 10)).length + 1 + (rjGo f (l.drop ((l.takeWhile (· != 10)).length + 1))).2)) else ([], 0)
def rjR (s : ByteArray) : List J × Nat := rjGo 99 s.data.toList
theorem tw_app {a l : List UInt8} (h : 10 ∉ a) : (a ++ 10 :: l).takeWhile (· != 10) = a := by
  rw [List.takeWhile_append_of_pos]
  · simp
  · intro x hx
    simp only [bne_iff_ne, ne_eq]
    rintro rfl; exact h hx
theorem split10 {l : List UInt8} (h : 10 ∈ l) : ∃ a r, l = a ++ 10 :: r ∧ 10 ∉ a := by
  induction l with
  | nil => cases h
  | cons b l ih =>
    by_cases hb : b = 10
    · subst hb; exact ⟨[], l, rfl, by simp⟩
    · obtain ⟨a, r, e, hn⟩ := ih ((List.mem_cons.1 h).resolve_left fun e => hb e.symm)
      refine ⟨b :: a, r, by rw [e]; rfl, ?_⟩
      simp only [List.mem_cons, not_or]
      exact ⟨fun e => hb e.symm, hn⟩
theorem tw_len {l : List UInt8} (h : 10 ∈ l) : (l.takeWhile (· != 10)).length + 1 ≤ l.length := by
  obtain ⟨a, r, rfl, hn⟩ := split10 h
  rw [tw_app hn]; simp
theorem rjGo_one {f : Nat} {l : List UInt8} {d : J} (hm : 10 ∈ l) (h : rdL (l.takeWhile (· != 10)) = some d) :
    rjGo (f + 1) l = (d :: (rjGo f (l.drop ((l.takeWhile (· != 10)).length + 1))).1, (l.takeWhile (· != 10)).length + 1 + (rjGo f (l.drop ((l.takeWhile (· != 10)).length + 1))).2) := by
  rw [rjGo, if_pos hm, h]
structure RjSt (s : ByteArray) (D : List J) (n f : Nat) : Prop where
  len : D.length + f = 99
  le : n ≤ s.size
  eq : rjR s = (D ++ (rjGo f (s.data.toList.drop n)).1, n + (rjGo f (s.data.toList.drop n)).2)
theorem RjSt.step {s : ByteArray} {D : List J} {n f : Nat} {d : J} (h : RjSt s D n (f + 1)) (hm : 10 ∈ s.data.toList.drop n) (hd : rdL ((s.data.toList.drop n).takeWhile (· != 10)) = some d) :
    RjSt s (D ++ [d]) (n + (((s.data.toList.drop n).takeWhile (· != 10)).length + 1)) f := by
  refine ⟨?_, ?_, ?_⟩
  · have := h.len; simp; omega
  · have h1 := tw_len hm
    have h2 := h.le
    rw [List.length_drop, size_len] at h1
    omega
  · rw [h.eq, rjGo_one hm hd, List.drop_drop]
    simp [Nat.add_assoc]
theorem MillSep.lt {lo hi : Nat} {w : World} {s p l h : Value} {m : Mi} (H : MillSep lo hi w s p l h m) : hi ≤ w.heap.size := by
  obtain ⟨a1, z1, a2, z2, a3, z3, a4, z4, -, -, -, -, -, -, -, -, -, h⟩ := H
  exact h
end Go.Proofs.YtmemgbklgcjobaaGreatDoor
namespace Go.Proofs.YtmemgbklgcjobaaGreatDoor
open Go.ChangeShapes Go.WideShapes Go.Deep Go.RowKit Go.ChangeAt
section
variable {H : Type} {enc : TypeId × Value → H} {P : Program}
theorem open_bytesAt {t e : TypeId} {w : World} {v : Value} {d : DataW H} {ps : List MemPlace} (ht : P.underlying t = some (.slice e)) (he : P.underlying e = some (.int .u8)) (hc : P.cellsOf e = 1)
    (h : DataW.Trod enc P w 0 (fun _ => true) true t v d ps) (hvs : ∃ ao n c, v = .slice ao n c) : ∃ n, BytesAt 0 w.heap.size w v n := by
  obtain ⟨ao, n0, c0, rfl⟩ := hvs
  obtain ⟨fuel, hf⟩ := h
  rcases open_slice1 ht hc hf with ⟨hcs, hx⟩ | ⟨a, len, cap, m, n, V, D, Pl, hcs, hb, hl, hm, hmm, hx, hi⟩
  · simp only [Value.cells, List.cons.injEq, and_true] at hcs
    rw [hcs]
    exact ⟨0, none, 0, rfl, Nat.le_refl _, by omega, Nat.le_refl _, fun h => absurd h (Nat.not_lt_zero _)⟩
  · simp only [Value.cells, List.cons.injEq, and_true] at hcs
    rw [hcs]
    simp only [↓reduceIte] at hmm
    subst hmm
    have hint : ∀ i, i < m → ∃ x : Int, V i = .int .u8 x ∧ 0 ≤ x ∧ x ≤ 255 := fun i him => by
      obtain ⟨_, ht'⟩ := hi i him
      obtain ⟨x, e1, _, e3⟩ := DataW.trod_int he ht'
      simp only [List.cons.injEq, and_true] at e1
      simp [Lit.wf, IntKind.min, IntKind.max, IntKind.signed, IntKind.bits] at e3
      exact ⟨x, e1, by omega, by omega⟩
    refine ⟨len, some a, m, rfl, hl, by unfold maxLen at hm; omega, Nat.le_refl _, fun hn => ?_⟩
    obtain ⟨h0, _⟩ := hi 0 (by omega)
    have ha0 : a.add 0 = a := by simp [Addr.add]
    rw [ha0] at h0
    obtain ⟨hs, hblt⟩ := cell_spot h0
    obtain ⟨b, o, sp⟩ := a
    simp only at hs hblt
    subst hs
    refine ⟨b, o, rfl, Nat.zero_le _, hblt, fun i hi' => ?_⟩
    obtain ⟨h1, _⟩ := hi i (by omega)
    obtain ⟨x, e1, e2, e3⟩ := hint i (by omega)
    have hadd : (⟨b, o, none⟩ : Addr).add i = ⟨b, o + i, none⟩ := by
      unfold Addr.add
      split
      · next h => subst h; rfl
      · rfl
    rw [hadd] at h1
    exact ⟨x, by rw [h1, e1], e2, e3⟩
end
end Go.Proofs.YtmemgbklgcjobaaGreatDoor
namespace Go.Proofs.YtmemgbklgcjobaaGreatDoor
open Go.ChangeShapes Go.WideShapes Go.Deep Go.RowKit Go.ChangeAt
theorem laid_met (os : Os) : laidMet Tryz.prog Rows.fnMillValidRow.laid ((World.doorLaid Tryz.prog 24 os).forCall (fun _ _ => 0) ⟨#[], #[.slice none 0 0], []⟩).memory :=
  laidMet_of_run' 8 (by kernel_rfl) (by kernel_rfl)
theorem wants_none : Tryz.prog.wantsStandIn 22 = false := by kernel_rfl
theorem looks_off : false = Tryz.pinned.checked.prog.looks [] := by kernel_rfl
end Go.Proofs.YtmemgbklgcjobaaGreatDoor
