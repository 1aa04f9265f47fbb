/-
  Parts of the proofs over mills, of: Frame, WalkA, More, PlainPile, PlainPile2, PlainMix, PlainCut. Conditions: each theorem states its own.
-/
import Derived.Deep.Fields
import Derived.Test.YtkhecelpafojdaaGreatDoorProg
import Derived.StillTailTactics
import Derived.BigQuiet
import Derived.Test.YtkhecelpafojdaaGreatDoorF01
set_option linter.unusedSimpArgs false
set_option linter.unusedVariables false
set_option maxRecDepth 10000
set_option maxHeartbeats 64000000
namespace Go.Proofs.YtkhecelpafojdaaGreatDoor
open Go.ChangeShapes Go.WideShapes Go.Deep Go.RowKit
section
variable {H : Type} {enc : TypeId × Value → H} {P : Program}
theorem trodAll_stays {W W' : World} (hl : laidOutB P = true) (hb : Below W.heap.size W W') (sp : Nat → Bool) :
 ∀ {ts : List TypeId} {vs : List Value} {ds : List (DataW H)} {ps : List MemPlace}, (∀ t ∈ ts, P.readableRec t = true ∧ t < P.types.size) →
  DataW.TrodAll enc P W 0 (fun _ => true) true ts vs ds ps → (∀ x ∈ ps, x.block < W.heap.size) → (∀ x ∈ ps, sp x.block = true) → DataW.TrodAll enc P W' 0 sp true ts vs ds ps
 | [], _, _, _, _, h, _, _ => by
  obtain ⟨rfl, rfl, rfl⟩ := trodAll_nil h;exact trodAll_mk0
 | t :: ts, _, _, _, hts, h, hlt, hsp => by
  obtain ⟨v, vs, d, ds, p, q, rfl, rfl, rfl, h1, h2⟩ := trodAll_cons h;obtain ⟨r1, r2⟩ := hts t (by simp);refine trodAll_cons_mk (WideElems.Trod_stays hl r1 r2 h1 (fun x hx => hb.same (hlt x (List.mem_append_left _ hx))) (fun x hx => hsp x (List.mem_append_left _ hx))) ?_;exact trodAll_stays hl hb sp (fun t ht => hts t (List.mem_cons_of_mem _ ht)) h2 (fun x hx => hlt x (List.mem_append_right _ hx)) (fun x hx => hsp x (List.mem_append_right _ hx))
theorem cell_spot {w : World} {a : Addr} {v : Value} (h : w.cell? a = some v) : a.spot = none ∧ a.block < w.heap.size := by
 unfold World.cell? at h;split at h
 ·rename_i c e m hb
  refine ⟨?_, ?_⟩
  ·cases hs : a.spot with
   | none => rfl
   | some s => simp [hs] at h
  ·obtain ⟨hlt, _⟩ := Array.getElem?_eq_some_iff.1 hb
   exact hlt
 ·cases h
end
end Go.Proofs.YtkhecelpafojdaaGreatDoor
namespace Go.Proofs.YtkhecelpafojdaaGreatDoor
open Go.ChangeShapes Go.WideShapes Go.Deep Go.RowKit
theorem jc {a b : Bool} (h1 : a = true) (h2 : b = true) : (a && b) = true := by rw [h1, h2]; rfl
theorem joined_of {P : Program} {f : FuncId} {fn : Func} {s : ChangeSpec} {c : OpenClaim}
 (a : (c.wf (OpenSpec.ofChange s) && laidOutB P && mapsRowed P && fn.params.all (P.readableRec ·) && namedTie P c.named s.vars && (c.stops == []) && (P.stops == []) && (c.knobs == []) && (P.stopKnobs == [])) = true)
 (b1 : (c.inPlace == P.inPlace f) = true) (b2 : (c.unfollowed == P.unfollowed f) = true) (b3 : (c.recurses == P.recurses f) = true) (b4 : (c.named == P.varsNamed f) = true)
 (d1 : ((c.maps == (fn.params.toList ++ s.plain.varTypes P).any (P.mapsRec ·)) && (c.ifaces == (fn.params.toList ++ s.plain.varTypes P).any (P.ifacesRec ·)) && (c.mapsOut == P.mapsAmong fn.resultTypes.toList) &&
   (c.loops == (fn.params.toList ++ s.plain.varTypes P).any (P.loopsFrom ·)) && (c.wideKeys == (fn.params.toList ++ s.plain.varTypes P ++ fn.resultTypes.toList).any (P.wideKeysFrom ·))) = true)
 (d2 : (s.vars.all (P.varReadable ·) && fn.resultTypes.all (fun t => P.readableRec t && decide (t < P.types.size)) && (c.ifacesOut == fn.resultTypes.toList.any (P.ifacesRec ·)) && (c.loopsOut == fn.resultTypes.toList.any (P.loopsFrom ·)) && (c.plainKeys == P.plainKeys) && c.shortTexts.isNone && P.stopsHeard) = true)
 (may : P.mayEnter = true) (lifts : (c.lifted == P.liftsFinal) = true) (make : (P.make == some c.make) = true)
 (e : ((c.kinds == (if c.domain.isEmpty then [] else fn.params.toList.map fun t => match P.underlying t with | some (.int k) => some k | _ => none)) && (c.pinned == c.pinnedBy) &&
   (c.veiled == (fn.params.toList ++ s.plain.varTypes P ++ fn.resultTypes.toList).any (P.veiledRec ·)) && c.veiledFits P fn.params.toList (fn.params.toList ++ s.plain.varTypes P ++ fn.resultTypes.toList)) = true) :
 joinedFacts P f fn s c = true := by
 unfold joinedFacts;rw [Bool.and_eq_true, Bool.and_eq_true, Bool.and_eq_true] at e;obtain ⟨⟨⟨e1, e2⟩, e3⟩, e4⟩ := e;rw [Bool.and_eq_true, Bool.and_eq_true, Bool.and_eq_true, Bool.and_eq_true] at d1;obtain ⟨⟨⟨⟨d11, d12⟩, d13⟩, d14⟩, d15⟩ := d1;rw [Bool.and_eq_true, Bool.and_eq_true, Bool.and_eq_true, Bool.and_eq_true, Bool.and_eq_true, Bool.and_eq_true] at d2;obtain ⟨⟨⟨⟨⟨⟨d21, d22⟩, d23⟩, d24⟩, d25⟩, d26⟩, d27⟩ := d2;exact jc (jc (jc (jc (jc (jc (jc (jc (jc (jc (jc (jc (jc (jc (jc (jc (jc (jc (jc (jc (jc (jc (jc a b1) b2) b3) b4) d11) d12) d13) d14) d15) d21) d22) d23) d24) d25) d26) d27) may) lifts) make) e1) e2) e3) e4
end Go.Proofs.YtkhecelpafojdaaGreatDoor
namespace Go.Proofs.YtkhecelpafojdaaGreatDoor
open Go.RowKit
theorem aU (n a b : Int) (w : World) :
 Calls Tryz.prog 45 #[.int .i64 n, .int .i64 a, .int .i64 b] w fun e w' => e = .returned (.bool (wi n a b)) ∧ w = w' := by
 by_cases h1 : a ≤ n
 ·go_enter Tryz.func45, Tryz.ntmps45
  go_wp2
  go_ret;simp [h1, wi]
 ·have h2 : decide (a ≤ n) = false := by simp [h1]
  go_enter Tryz.func45, Tryz.ntmps45
  go_wp2
  go_ret;simp [wi, h2]
theorem aY (n a b : Int) (w : World) :
 Calls Tryz.prog 42 #[.int .i64 n, .int .i64 a, .int .i64 b] w fun e w' => e = .returned (.bool (wi n a b)) ∧ w = w' := by
 by_cases h1 : a ≤ n
 ·go_enter Tryz.func42, Tryz.ntmps42
  go_wp2
  go_ret;simp [h1, wi]
 ·have h2 : decide (a ≤ n) = false := by simp [h1]
  go_enter Tryz.func42, Tryz.ntmps42
  go_wp2
  go_ret;simp [wi, h2]
def upTo (n : Nat) (p : Nat → Bool) : Bool := (List.range n).all p
theorem upTo_iff {n : Nat} {p : Nat → Bool} : upTo n p = true ↔ ∀ k, k < n → p k = true := by simp [upTo]
theorem upTo_true {n : Nat} {p : Nat → Bool} (h : ∀ k, k < n → p k = true) : upTo n p = true := upTo_iff.2 h
theorem upTo_false {n k : Nat} {p : Nat → Bool} (hk : k < n) (hp : p k = false) : upTo n p = false := by
 cases h : upTo n p with
 | false => rfl
 | true => rw [upTo_iff.1 h k hk] at hp; cases hp
theorem dn {k : Nat} {p : Nat → Bool} (h : ∀ j, j < k → p j = true) (hp : p k = true) : ∀ j, j < k + 1 → p j = true := fun j hj => by
 rcases Nat.lt_or_ge j k with h1 | h1
 ·exact h j h1
 ·obtain rfl : j = k := by omega
  exact hp
def jo (xs : List Int) (n : Int) : Bool := xs.any (· == n)
theorem dE {xs : List Int} {n : Int} : jo xs n = true ↔ n ∈ xs := by simp [jo]
theorem hasI_false {xs : List Int} {n : Int} : jo xs n = false ↔ n ∉ xs := by
 rw [← dE]; simp
def idK (ids : List Int) (k : Nat) : Bool := wi (ids.getD k 0) 0 99 && (ids.getD k 0 == 0 || !jo (ids.take k) (ids.getD k 0))
def onK (lo hi : List Int) (k : Nat) : Bool := hi.getD k 0 == 0 || (lo.getD k 0 != 0 && lo.getD (k + 1) 0 != 0)
def aO (lo hi : List Int) : Bool := wi lo.length 1 6 && (decide ((hi.length : Int) = lo.length - 1) && (upTo (lo ++ hi).length (idK (lo ++ hi)) && upTo hi.length (onK lo hi)))
def nz (l : List Int) : List Int := l.filter (· != 0)
theorem eD {l : List Int} {x : Int} : x ∈ nz l ↔ x ∈ l ∧ x ≠ 0 := by simp [nz]
structure gZ (lo hi : List Int) : Prop where
 l1 : 1 ≤ lo.length
 l6 : lo.length ≤ 6
 lh : hi.length + 1 = lo.length
 rng : ∀ x ∈ lo ++ hi, 0 ≤ x ∧ x ≤ 99
 nd : (nz (lo ++ hi)).Nodup
 on : ∀ k, k < hi.length → hi.getD k 0 ≠ 0 → lo.getD k 0 ≠ 0 ∧ lo.getD (k + 1) 0 ≠ 0
theorem nd_snoc (l : List Int) (x : Int) : (nz (l ++ [x])).Nodup ↔ (nz l).Nodup ∧ (x = 0 ∨ x ∉ l) := by
 by_cases h : x = 0
 ·subst h; simp [nz]
 ·have e : nz (l ++ [x]) = nz l ++ [x] := by simp [nz, h]
  rw [e, List.nodup_append];constructor
  ·rintro ⟨h1, _, h3⟩
   exact ⟨h1, .inr fun hx => h3 x (eD.2 ⟨hx, h⟩) x (by simp) rfl⟩
  ·rintro ⟨h1, h2⟩
   refine ⟨h1, by simp, fun a ha b hb e => ?_⟩;simp only [List.mem_singleton] at hb;rw [e, hb] at ha;rcases h2 with h2 | h2
   ·exact h h2
   ·exact h2 (eD.1 ha).1
theorem nd_iff : ∀ (l : List Int), (∀ k, k < l.length → l.getD k 0 = 0 ∨ l.getD k 0 ∉ l.take k) ↔ (nz l).Nodup := by
 intro l
 induction hn : l.length generalizing l with
 | zero => obtain rfl := List.length_eq_zero_iff.1 hn; simp [nz]
 | succ n ih =>
  obtain ⟨a, x, rfl⟩ : ∃ a x, l = a ++ [x] := by
   rcases List.eq_nil_or_concat l with h | ⟨a, x, h⟩
   ·subst h; cases hn
   ·exact ⟨a, x, by rw [h]; simp⟩
  have ha : a.length = n := by simpa using hn
  rw [nd_snoc, ← ih a ha];constructor
  ·intro h
   refine ⟨fun k hk => ?_, ?_⟩
   ·have := h k (by omega)
    rw [List.take_append_of_le_length (by omega)] at this;simpa [List.getD, List.getElem?_append_left (show k < a.length by omega)] using this
   ·have := h n (by omega)
    rw [← ha] at this;simpa [List.getD] using this
  ·rintro ⟨h1, h2⟩ k hk
   rcases Nat.lt_or_ge k n with hlt | hge
   ·have := h1 k hlt
    rw [List.take_append_of_le_length (by omega)];simpa [List.getD, List.getElem?_append_left (show k < a.length by omega)] using this
   ·have e : k = a.length := by omega
    subst e;simpa [List.getD] using h2
theorem gY {l : List Int} {k : Nat} (h : k < l.length) : l.getD k 0 ∈ l := by
 rw [List.getD_eq_getElem?_getD, List.getElem?_eq_getElem h]; exact List.getElem_mem _
theorem jh {l : List Int} {x : Int} (h : x ∈ l) : ∃ k, k < l.length ∧ l.getD k 0 = x := by
 obtain ⟨k, hk, e⟩ := List.getElem_of_mem h;exact ⟨k, hk, by rw [List.getD_eq_getElem?_getD, List.getElem?_eq_getElem hk]; exact e⟩
theorem aZ {lo hi : List Int} : aO lo hi = true ↔ gZ lo hi := by
 unfold aO;rw [Bool.and_eq_true, Bool.and_eq_true, Bool.and_eq_true, aN, decide_eq_true_iff, upTo_iff, upTo_iff];constructor
 ·rintro ⟨⟨h1, h2⟩, h3, h4, h5⟩
  have h4' : ∀ k, k < (lo ++ hi).length → (0 ≤ (lo ++ hi).getD k 0 ∧ (lo ++ hi).getD k 0 ≤ 99) ∧ ((lo ++ hi).getD k 0 = 0 ∨ (lo ++ hi).getD k 0 ∉ (lo ++ hi).take k) := fun k hk => by
   have := h4 k hk;unfold idK at this;rw [Bool.and_eq_true, aN, Bool.or_eq_true, Bool.not_eq_true', hasI_false, beq_iff_eq] at this;exact this
  refine ⟨by omega, by omega, by omega, fun x hx => ?_, (nd_iff _).1 fun k hk => (h4' k hk).2, fun k hk hne => ?_⟩
  ·obtain ⟨k, hk, rfl⟩ := jh hx
   exact (h4' k hk).1
  ·have := h5 k hk
   unfold onK at this;rw [Bool.or_eq_true, Bool.and_eq_true, beq_iff_eq, bne_iff_ne, bne_iff_ne] at this;rcases this with h | h
   ·exact absurd h hne
   ·exact h
 ·rintro ⟨h1, h2, h3, h4, h5, h6⟩
  refine ⟨⟨by omega, by omega⟩, by omega, fun k hk => ?_, fun k hk => ?_⟩
  ·unfold idK
   rw [Bool.and_eq_true, aN, Bool.or_eq_true, Bool.not_eq_true', hasI_false, beq_iff_eq];exact ⟨h4 _ (gY hk), (nd_iff _).2 h5 k hk⟩
  ·unfold onK
   rw [Bool.or_eq_true, Bool.and_eq_true, beq_iff_eq, bne_iff_ne, bne_iff_ne];by_cases h : hi.getD k 0 = 0
   ·exact .inl h
   ·exact .inr (h6 k hk h)
def ids99 : List Int := (List.range 99).map fun (k : Nat) => (k : Int) + 1
def ib (lo hi : List Int) : List Int := if aO lo hi then ids99.filter (fun x => jo (lo ++ hi) x) else []
theorem ids99_lt : ids99.Pairwise (· < ·) := by
 unfold ids99;rw [List.pairwise_map];exact List.Pairwise.imp (fun {a b} (h : a < b) => by omega) List.pairwise_lt_range
theorem mem_ids99 {x : Int} : x ∈ ids99 ↔ 1 ≤ x ∧ x ≤ 99 := by
 unfold ids99;simp only [List.mem_map, List.mem_range];constructor
 ·rintro ⟨k, hk, rfl⟩; omega
 ·rintro ⟨h1, h2⟩; exact ⟨(x - 1).toNat, by omega, by omega⟩
theorem coil_lt (lo hi : List Int) : (ib lo hi).Pairwise (· < ·) := by
 unfold ib;split
 ·exact ids99_lt.filter _
 ·exact List.Pairwise.nil
theorem mem_coil {lo hi : List Int} (h : gZ lo hi) {x : Int} : x ∈ ib lo hi ↔ x ∈ nz (lo ++ hi) := by
 rw [ib, if_pos (aZ.2 h), List.mem_filter, mem_ids99, dE, eD];constructor
 ·rintro ⟨h1, h2⟩; exact ⟨h2, by omega⟩
 ·rintro ⟨h1, h2⟩; have := h.rng x h1; exact ⟨by omega, h1⟩
theorem jH {l l' : List Int} (h : l.Pairwise (· < ·)) (h' : l'.Pairwise (· < ·)) (hm : ∀ x, x ∈ l ↔ x ∈ l') : l = l' := by
 have nd : ∀ {l : List Int}, l.Pairwise (· < ·) → l.Nodup := fun h => List.nodup_iff_pairwise_ne.2 (h.imp fun {a b} (h : a < b) => by omega)
 exact List.Perm.eq_of_pairwise (fun a b _ _ (h1 : a < b) (h2 : b < a) => by omega) h h' ((List.perm_ext_iff_of_nodup (nd h) (nd h')).2 hm)
theorem coil_sorted {lo hi l : List Int} (h : gZ lo hi) (hp : l.Perm (nz (lo ++ hi))) (hs : l.Pairwise (· ≤ ·)) : l = ib lo hi := by
 have hn : l.Nodup := hp.nodup_iff.2 h.nd;have hlt : l.Pairwise (· < ·) := by
  have h2 := List.nodup_iff_pairwise_ne.1 hn;exact (hs.and h2).imp fun {a b} ⟨h1, h2⟩ => by omega
 exact jH hlt (coil_lt lo hi) fun x => by rw [mem_coil h]; exact hp.mem_iff
def cZ (t : Bool) (lo hi : List Int) : List Int := if t then hi else lo
def atR (lo hi : List Int) (t : Bool) (p : Int) : Int := if aO lo hi && wi p 0 ((cZ t lo hi).length - 1) then (cZ t lo hi).getD p.toNat 0 else -1
def onR (lo hi : List Int) (t : Bool) (p : Int) : List Int := if decide (atR lo hi t p < 1) || t then [] else [atR lo hi true (p - 1), atR lo hi true p].filter (fun x => decide (0 < x))
def cK (lo hi : List Int) (id : Int) : Option (Bool × Int) :=
 if aO lo hi && decide (1 ≤ id) then (if jo lo id then some (false, (lo.idxOf id : Nat)) else if jo hi id then some (true, (hi.idxOf id : Nat)) else none) else none
def bZ (t : Bool) (lo hi : List Int) (p x : Int) : List Int × List Int := if t then (lo, hi.set p.toNat x) else (lo.set p.toNat x, hi)
def fE (lo hi : List Int) (t : Bool) (p id : Int) : (List Int × List Int) × Bool :=
 if aO lo hi then (if decide (id < 1) || atR lo hi t p != 0 then ((lo, hi), false) else if aO (bZ t lo hi p id).1 (bZ t lo hi p id).2 then (bZ t lo hi p id, true) else ((lo, hi), false)) else (([], []), false)
def bE (lo hi : List Int) (t : Bool) (p : Int) : (List Int × List Int) × Int :=
 if aO lo hi then (if decide (atR lo hi t p < 1) || decide (0 < (onR lo hi t p).length) then ((lo, hi), 0) else (bZ t lo hi p 0, atR lo hi t p)) else (([], []), 0)
def eX (lo hi : List Int) (t : Bool) (p : Int) (t' : Bool) (p' : Int) : (List Int × List Int) × Bool :=
 if aO lo hi then (if t == t' && p == p' then ((lo, hi), false) else if (bE lo hi t p).2 == 0 then ((lo, hi), false) else
  if (fE (bE lo hi t p).1.1 (bE lo hi t p).1.2 t' p' (bE lo hi t p).2).2 then ((fE (bE lo hi t p).1.1 (bE lo hi t p).1.2 t' p' (bE lo hi t p).2).1, true) else ((lo, hi), false)) else (([], []), false)
theorem row_mem {t : Bool} {lo hi : List Int} {x : Int} (h : x ∈ cZ t lo hi) : x ∈ lo ++ hi := by
 cases t <;> simp [cZ] at h <;> simp [h]
theorem jX {lo hi : List Int} {t : Bool} {p : Int} (h : 0 ≤ atR lo hi t p) : gZ lo hi ∧ ∃ k : Nat, p = k ∧ k < (cZ t lo hi).length ∧ atR lo hi t p = (cZ t lo hi).getD k 0 := by
 unfold atR at h ⊢;split at h
 ·rename_i hc
  rw [Bool.and_eq_true, aN] at hc;obtain ⟨h1, h2, h3⟩ := hc;refine ⟨aZ.1 h1, p.toNat, by omega, by omega, ?_⟩;rw [if_pos (by rw [Bool.and_eq_true, aN]; exact ⟨h1, h2, h3⟩)]
 ·omega
def spotIx (t : Bool) (lo : List Int) (k : Nat) : Nat := if t then lo.length + k else k
theorem set_both (t : Bool) (lo hi : List Int) (k : Nat) (x : Int) (hk : k < (cZ t lo hi).length) :
 (bZ t lo hi k x).1 ++ (bZ t lo hi k x).2 = (lo ++ hi).set (spotIx t lo k) x := by
 cases t
 ·simp only [cZ, Bool.false_eq_true, if_false] at hk
  simp only [bZ, spotIx, Bool.false_eq_true, if_false, Int.toNat_natCast];rw [List.set_append_left _ _ hk]
 ·simp only [bZ, spotIx, if_true, Int.toNat_natCast]
  rw [List.set_append_right _ _ (by omega), Nat.add_sub_cancel_left]
theorem get_both (t : Bool) (lo hi : List Int) (k : Nat) (hk : k < (cZ t lo hi).length) : (lo ++ hi).getD (spotIx t lo k) 0 = (cZ t lo hi).getD k 0 ∧ spotIx t lo k < (lo ++ hi).length := by
 cases t
 ·simp only [cZ, Bool.false_eq_true, if_false] at hk ⊢
  simp only [spotIx, Bool.false_eq_true, if_false, List.length_append];refine ⟨?_, by omega⟩;simp [List.getD, List.getElem?_append_left hk]
 ·simp only [cZ, if_true] at hk ⊢
  simp only [spotIx, if_true, List.length_append];refine ⟨?_, by omega⟩;simp [List.getD, List.getElem?_append_right]
theorem set_len (t : Bool) (lo hi : List Int) (p x : Int) : (bZ t lo hi p x).1.length = lo.length ∧ (bZ t lo hi p x).2.length = hi.length := by
 cases t <;> simp [bZ]
theorem dN (l : List Int) (k j : Nat) (x : Int) (hk : k < l.length) : (l.set k x).getD j 0 = if j = k then x else l.getD j 0 := by
 simp only [List.getD_eq_getElem?_getD, List.getElem?_set];by_cases h : k = j
 ·subst h; simp [hk]
 ·rw [if_neg h, if_neg (fun e => h e.symm)]
theorem mem_put {l : List Int} {k : Nat} {x : Int} (hk : k < l.length) (h0 : l.getD k 0 = 0) (hx : x ≠ 0) (z : Int) : z ∈ nz (l.set k x) ↔ z = x ∨ z ∈ nz l := by
 rw [eD, eD];constructor
 ·rintro ⟨h1, h2⟩
  obtain ⟨j, hj, e⟩ := jh h1;rw [dN _ _ _ _ hk] at e;split at e
  ·exact .inl e.symm
  ·exact .inr ⟨by rw [← e]; exact gY (by simpa using hj), h2⟩
 ·rintro (rfl | ⟨h1, h2⟩)
  ·exact ⟨List.mem_set hk _, hx⟩
  ·refine ⟨?_, h2⟩
   obtain ⟨j, hj, e⟩ := jh h1;have hne : j ≠ k := fun e' => h2 (by rw [← e, e', h0]);rw [← e, ← (by rw [dN _ _ _ _ hk, if_neg hne] : (l.set k x).getD j 0 = l.getD j 0)];exact gY (by simpa using hj)
theorem mem_take {l : List Int} {k : Nat} {x : Int} (hk : k < l.length) (h0 : l.getD k 0 = x) (hx : x ≠ 0) (hn : (nz l).Nodup) (z : Int) : z ∈ nz (l.set k 0) ↔ z ∈ nz l ∧ z ≠ x := by
 have hd := (nd_iff l).2 hn;rw [eD, eD];constructor
 ·rintro ⟨h1, h2⟩
  obtain ⟨j, hj, e⟩ := jh h1;have hj' : j < l.length := by simpa using hj
  rw [dN _ _ _ _ hk] at e;split at e
  ·exact absurd e.symm h2
  ·rename_i hne
   refine ⟨⟨by rw [← e]; exact gY hj', h2⟩, fun ez => ?_⟩;have hin : ∀ {a b : Nat}, a < b → b < l.length → l.getD a 0 ∈ l.take b := fun {a b} hab hb => by
    rw [List.mem_take_iff_getElem];exact ⟨a, by omega, by simp [List.getD, List.getElem?_eq_getElem (show a < l.length by omega)]⟩
   rcases Nat.lt_or_gt_of_ne hne with h | h
   ·rcases hd k hk with h3 | h3
    ·exact hx (by rw [← h0, h3])
    ·refine h3 ?_
     rw [h0, ← ez, ← e];exact hin h hk
   ·rcases hd j hj' with h3 | h3
    ·exact h2 (by rw [← e, h3])
    ·refine h3 ?_
     rw [e, ez, ← h0];exact hin h hj'
 ·rintro ⟨⟨h1, h2⟩, h3⟩
  refine ⟨?_, h2⟩;obtain ⟨j, hj, e⟩ := jh h1;have hne : j ≠ k := fun e' => h3 (by rw [← e, e', h0]);rw [← e, ← (by rw [dN _ _ _ _ hk, if_neg hne] : (l.set k 0).getD j 0 = l.getD j 0)];exact gY (by simpa using hj)
theorem put_ok {lo hi : List Int} {t : Bool} {p id : Int} {q : List Int × List Int} (h : fE lo hi t p id = (q, true)) :
 gZ lo hi ∧ gZ q.1 q.2 ∧ 1 ≤ id ∧ (∀ z, z ∈ nz (q.1 ++ q.2) ↔ z = id ∨ z ∈ nz (lo ++ hi)) ∧ q = bZ t lo hi p id ∧ (∃ k : Nat, p = k ∧ k < (cZ t lo hi).length ∧ (cZ t lo hi).getD k 0 = 0) := by
 unfold fE at h;split at h
 ·rename_i hv
  split at h
  ·simp at h
  ·rename_i hc
   rw [Bool.or_eq_true, decide_eq_true_iff, bne_iff_ne, not_or, Decidable.not_not] at hc;obtain ⟨h1, h2⟩ := hc;split at h
   ·rename_i hq
    simp only [Prod.mk.injEq, and_true] at h;subst h;obtain ⟨-, k, rfl, hk, e⟩ := jX (lo := lo) (hi := hi) (t := t) (p := p) (by omega);have e0 : (cZ t lo hi).getD k 0 = 0 := by rw [← e]; exact h2
    obtain ⟨g1, g2⟩ := get_both t lo hi k hk;refine ⟨aZ.1 hv, aZ.1 hq, by omega, fun z => ?_, rfl, k, rfl, hk, e0⟩;rw [set_both t lo hi k id hk];exact mem_put g2 (by rw [g1, e0]) (by omega) z
   ·simp at h
 ·simp at h
theorem on_none {lo hi : List Int} {p : Nat} (h : onR lo hi false p = []) (hv : gZ lo hi) (hk : p < lo.length) (hat : 1 ≤ lo.getD p 0) : (∀ j, j < hi.length → (j = p ∨ j + 1 = p) → hi.getD j 0 = 0) := by
 intro j hj hjp;have hat1 : ¬ atR lo hi false p < 1 := by
  unfold atR;rw [if_pos (by rw [Bool.and_eq_true, aN]; exact ⟨aZ.2 hv, by omega, by show (p : Int) ≤ (lo.length : Int) - 1; omega⟩)];show ¬ lo.getD (p : Int).toNat 0 < 1
  rw [Int.toNat_natCast]; omega
 unfold onR at h;rw [if_neg (by simp; omega)] at h;have hj2 : atR lo hi true j = hi.getD j 0 := by
  unfold atR;rw [if_pos (by rw [Bool.and_eq_true, aN]; exact ⟨aZ.2 hv, by omega, by show (j : Int) ≤ (hi.length : Int) - 1; omega⟩)];show hi.getD (j : Int).toNat 0 = _
  rw [Int.toNat_natCast]
 have hnn := (hv.rng _ (List.mem_append_right _ (gY hj))).1;rw [List.filter_eq_nil_iff] at h;have : atR lo hi true j ∈ [atR lo hi true ((p : Int) - 1), atR lo hi true p] := by
  rcases hjp with rfl | rfl
  ·simp
  ·rw [show ((j + 1 : Nat) : Int) - 1 = (j : Int) by omega]; simp
 have := h _ this;rw [hj2, decide_eq_true_iff] at this;omega
theorem take_ok {lo hi : List Int} {t : Bool} {p id : Int} {q : List Int × List Int} (h : bE lo hi t p = (q, id)) (hid : id ≠ 0) :
 gZ lo hi ∧ gZ q.1 q.2 ∧ 1 ≤ id ∧ (∀ z, z ∈ nz (q.1 ++ q.2) ↔ z ∈ nz (lo ++ hi) ∧ z ≠ id) ∧ id ∈ nz (lo ++ hi) ∧ q = bZ t lo hi p 0 ∧ (∃ k : Nat, p = k ∧ k < (cZ t lo hi).length ∧ (cZ t lo hi).getD k 0 = id) := by
 unfold bE at h;split at h
 ·rename_i hv
  have hv := aZ.1 hv;split at h
  ·simp only [Prod.mk.injEq] at h; exact absurd h.2.symm hid
  ·rename_i hc
   rw [Bool.or_eq_true, decide_eq_true_iff, decide_eq_true_iff, not_or] at hc;obtain ⟨h1, h2⟩ := hc;simp only [Prod.mk.injEq] at h;obtain ⟨rfl, h3⟩ := h;obtain ⟨-, k, rfl, hk, e⟩ := jX (lo := lo) (hi := hi) (t := t) (p := p) (by omega);have e0 : (cZ t lo hi).getD k 0 = id := by rw [← e]; exact h3
   obtain ⟨g1, g2⟩ := get_both t lo hi k hk;have hin : id ∈ nz (lo ++ hi) := eD.2 ⟨by rw [← e0]; exact row_mem (gY hk), hid⟩;have hon0 : onR lo hi t k = [] := List.length_eq_zero_iff.1 (by omega);have hmt := mem_take g2 (by rw [g1, e0]) hid hv.nd;obtain ⟨l1, l2⟩ := set_len t lo hi k 0;refine ⟨hv, ⟨by rw [l1]; exact hv.l1, by rw [l1]; exact hv.l6, by rw [l1, l2]; exact hv.lh, fun x hx => ?_, ?_, fun j hj hne => ?_⟩, by omega, fun z => ?_, hin, rfl, k, rfl, hk, e0⟩
   ·rw [set_both t lo hi k 0 hk] at hx
    rcases List.mem_or_eq_of_mem_set hx with h | h
    ·exact hv.rng x h
    ·subst h; omega
   ·rw [set_both t lo hi k 0 hk]
    rw [← nd_iff];intro j hj;rw [dN _ _ _ _ g2];split
    ·exact .inl rfl
    ·rename_i hne
     rcases (nd_iff _).2 hv.nd j (by simpa using hj) with h | h
     ·exact .inl h
     ·by_cases h0 : (lo ++ hi).getD j 0 = 0
      ·exact .inl h0
      ·refine .inr fun hmem => h ?_
       rw [List.take_set] at hmem;rcases List.mem_or_eq_of_mem_set hmem with h' | h'
       ·exact h'
       ·exact absurd h' h0
   ·rw [l2] at hj
    cases t
    ·simp only [bZ, Bool.false_eq_true, if_false, Int.toNat_natCast] at hne ⊢
     simp only [cZ, Bool.false_eq_true, if_false] at hk e0;have hz := on_none hon0 hv hk (by omega);have ho := hv.on j hj hne;rw [dN _ _ _ _ hk, dN _ _ _ _ hk];rw [if_neg (fun e => hne (hz j hj (.inl e))), if_neg (fun e => hne (hz j hj (.inr e)))];exact ho
    ·simp only [bZ, if_true, Int.toNat_natCast] at hne ⊢
     simp only [cZ, if_true] at hk;rw [dN _ _ _ _ hk] at hne;split at hne
     ·exact absurd rfl hne
     ·exact hv.on j hj hne
   ·rw [set_both t lo hi k 0 hk]; exact hmt z
 ·simp only [Prod.mk.injEq] at h; exact absurd h.2.symm hid
theorem find_at {lo hi : List Int} {id : Int} {t : Bool} {p : Int} (h : cK lo hi id = some (t, p)) : gZ lo hi ∧ 1 ≤ id ∧ ∃ k : Nat, p = k ∧ k < (cZ t lo hi).length ∧ (cZ t lo hi).getD k 0 = id := by
 have ix : ∀ {l : List Int}, jo l id = true → l.idxOf id < l.length ∧ l.getD (l.idxOf id) 0 = id := fun {l} h => by
  have hl := List.idxOf_lt_length_of_mem (dE.1 h);refine ⟨hl, ?_⟩;rw [List.getD_eq_getElem?_getD, List.getElem?_eq_getElem hl];exact List.getElem_idxOf hl
 unfold cK at h;split at h
 ·rename_i hc
  rw [Bool.and_eq_true, decide_eq_true_iff] at hc;refine ⟨aZ.1 hc.1, hc.2, ?_⟩;split at h
  ·rename_i hm
   simp only [Option.some.injEq, Prod.mk.injEq] at h;obtain ⟨rfl, rfl⟩ := h;exact ⟨_, rfl, (ix hm).1, (ix hm).2⟩
  ·split at h
   ·rename_i hm
    simp only [Option.some.injEq, Prod.mk.injEq] at h;obtain ⟨rfl, rfl⟩ := h;exact ⟨_, rfl, (ix hm).1, (ix hm).2⟩
   ·cases h
 ·cases h
theorem find_some {lo hi : List Int} {id : Int} (hv : gZ lo hi) (h : id ∈ nz (lo ++ hi)) : ∃ t p, cK lo hi id = some (t, p) := by
 have h1 := (eD.1 h).1;have h2 := hv.rng id h1;have h3 := (eD.1 h).2;unfold cK;rw [if_pos (by rw [Bool.and_eq_true, decide_eq_true_iff]; exact ⟨aZ.2 hv, by omega⟩)];rcases List.mem_append.1 h1 with h | h
 ·rw [if_pos (dE.2 h)]; exact ⟨_, _, rfl⟩
 ·split
  ·exact ⟨_, _, rfl⟩
  ·rw [if_pos (dE.2 h)]; exact ⟨_, _, rfl⟩
theorem lift_ok {lo hi : List Int} {t t' : Bool} {p p' : Int} {q : List Int × List Int} (h : eX lo hi t p t' p' = (q, true)) :
 gZ lo hi ∧ gZ q.1 q.2 ∧ (∀ z, z ∈ nz (q.1 ++ q.2) ↔ z ∈ nz (lo ++ hi)) ∧ q ≠ (lo, hi) := by
 unfold eX at h;split at h
 ·split at h
  ·simp at h
  ·rename_i hne
   split at h
   ·simp at h
   ·rename_i h0
    split at h
    ·rename_i hp
     simp only [Prod.mk.injEq, and_true] at h;have h0' : (bE lo hi t p).2 ≠ 0 := by simpa using h0
     obtain ⟨a1, a2, a3, a4, a5, a6, k, rfl, hk, ek⟩ := take_ok (q := (bE lo hi t p).1) (id := (bE lo hi t p).2) rfl h0';generalize (bE lo hi t ↑k).1 = r at *;generalize (bE lo hi t ↑k).2 = id at *;obtain ⟨b1, b2, b3, b4, b5, k', rfl, hk', ek'⟩ := put_ok (q := q) (by rw [← h, ← hp]);refine ⟨a1, b2, fun z => ?_, fun e => ?_⟩
     ·rw [b4, a4]
      constructor
      ·rintro (rfl | ⟨h1, _⟩)
       ·exact a5
       ·exact h1
      ·intro h1
       by_cases hz : z = id
       ·exact .inl hz
       ·exact .inr ⟨h1, hz⟩
     ·have hne' : ¬ (t = t' ∧ k = k') := by
       rintro ⟨rfl, rfl⟩;apply hne; simp
      have e1 : (cZ t q.1 q.2).getD k 0 = id := by rw [e]; exact ek
      rw [b5, a6] at e1;have : (cZ t (bZ t' (bZ t lo hi k 0).1 (bZ t lo hi k 0).2 k' id).1 (bZ t' (bZ t lo hi k 0).1 (bZ t lo hi k 0).2 k' id).2).getD k 0 = 0 := by
       cases t <;> cases t'
       ·simp only [cZ, bZ, Bool.false_eq_true, if_false, Int.toNat_natCast] at hk hk' ⊢
        rw [a6] at hk';simp only [bZ, Bool.false_eq_true, if_false, Int.toNat_natCast] at hk';rw [dN _ _ _ _ hk', if_neg (fun e => hne' ⟨rfl, e⟩), dN _ _ _ _ hk, if_pos rfl]
       ·simp only [cZ, bZ, Bool.false_eq_true, if_false, if_true, Int.toNat_natCast] at hk hk' ⊢
        rw [dN _ _ _ _ hk, if_pos rfl]
       ·simp only [cZ, bZ, Bool.false_eq_true, if_false, if_true, Int.toNat_natCast] at hk hk' ⊢
        rw [dN _ _ _ _ hk, if_pos rfl]
       ·simp only [cZ, bZ, if_true, Int.toNat_natCast] at hk hk' ⊢
        rw [a6] at hk';simp only [bZ, if_true, Int.toNat_natCast] at hk';rw [dN _ _ _ _ hk', if_neg (fun e => hne' ⟨rfl, e⟩), dN _ _ _ _ hk, if_pos rfl]
      rw [this] at e1;exact h0' e1.symm
    ·simp at h
 ·simp at h
structure St where
 c : Int
 m : Int
 s : Int
 p : Int
 k : Int
 deriving DecidableEq
structure Gr where
 lc : Int
 hc : Int
 lm : Int
 hm : Int
 ls : Int
 hs : Int
 deriving DecidableEq
def st0 : St := ⟨0, 0, 0, 0, 0⟩
def stB (s : St) : Bool := wi s.c 0 999 && (wi s.m 0 999 && (wi s.s 0 999 && (wi s.p 0 99 && wi s.k 0 9)))
def dY (l : List St) : Bool := decide (l.length ≤ 4) && l.all stB
def grB (g : Gr) : Bool := wi g.lc 0 999 && (wi g.hc g.lc 999 && (wi g.lm 0 999 && (wi g.hm g.lm 999 && (wi g.ls 0 999 && wi g.hs g.ls 999))))
theorem dG {l : List St} (h : dY l = true) : l.length ≤ 4 := by simp [dY] at h; exact h.1
theorem stsB_at {l : List St} (h : dY l = true) {k : Nat} (hk : k < l.length) : stB l[k] = true := by
 simp [dY] at h; exact h.2 _ (List.getElem_mem _)
theorem bR {l : List St} (h : dY l = true) {k : Nat} (hk : k < l.length) : stB (l.getD k st0) = true := by
 rw [List.getD_eq_getElem?_getD, List.getElem?_eq_getElem hk]; exact stsB_at h hk
theorem eP {s : St} : stB s = true ↔ (0 ≤ s.c ∧ s.c ≤ 999) ∧ (0 ≤ s.m ∧ s.m ≤ 999) ∧ (0 ≤ s.s ∧ s.s ≤ 999) ∧ (0 ≤ s.p ∧ s.p ≤ 99) ∧ (0 ≤ s.k ∧ s.k ≤ 9) := by
 simp [stB, aN]
theorem grB_iff {g : Gr} : grB g = true ↔ (0 ≤ g.lc ∧ g.lc ≤ 999) ∧ (g.lc ≤ g.hc ∧ g.hc ≤ 999) ∧ (0 ≤ g.lm ∧ g.lm ≤ 999) ∧ (g.lm ≤ g.hm ∧ g.hm ≤ 999) ∧ (0 ≤ g.ls ∧ g.ls ≤ 999) ∧ (g.ls ≤ g.hs ∧ g.hs ≤ 999) := by
 simp [grB, aN]
def sumTo (l : List Int) : Nat → Int
 | 0 => 0
 | k + 1 => sumTo l k + l.getD k 0
def mixK (sts : List St) (mix : List Int) (k : Nat) : Bool := wi (mix.getD k 0) 0 (sts.getD k st0).k
def eT (sts : List St) (mix : List Int) : Bool := dY sts && (decide (mix.length = sts.length) && upTo mix.length (mixK sts mix))
def bI (f : St → Int) (sts : List St) (mix : List Int) : Nat → Int
 | 0 => 0
 | k + 1 => bI f sts mix k + mix.getD k 0 * f (sts.getD k st0)
def fH (sts : List St) (mix : List Int) : Int := if eT sts mix then bI St.p sts mix mix.length else -1
def bS (f : St → Int) (sts : List St) (mix : List Int) : Int := if eT sts mix then bI f sts mix mix.length else -1
def dV (mix : List Int) : Int := sumTo mix mix.length
def dP (sts : List St) (mix : List Int) (g : Gr) : Bool :=
 eT sts mix && (grB g && (decide (0 < dV mix) && (wi (bS St.c sts mix) (g.lc * dV mix) (g.hc * dV mix) && (wi (bS St.m sts mix) (g.lm * dV mix) (g.hm * dV mix) && wi (bS St.s sts mix) (g.ls * dV mix) (g.hs * dV mix)))))
theorem dF {sts : List St} {mix : List Int} (h : eT sts mix = true) : dY sts = true ∧ mix.length = sts.length ∧ ∀ k, k < mix.length → 0 ≤ mix.getD k 0 ∧ mix.getD k 0 ≤ (sts.getD k st0).k := by
 unfold eT at h;rw [Bool.and_eq_true, Bool.and_eq_true, decide_eq_true_iff, upTo_iff] at h;exact ⟨h.1, h.2.1, fun k hk => aN.1 (h.2.2 k hk)⟩
theorem jQ {sts : List St} {mix : List Int} (h : eT sts mix = true) {k : Nat} (hk : k < mix.length) : 0 ≤ mix.getD k 0 ∧ mix.getD k 0 ≤ 9 := by
 obtain ⟨h1, h2, h3⟩ := dF h;have := h3 k hk;have := (eP.1 (bR h1 (show k < sts.length by omega))).2.2.2.2;omega
theorem jB {a b x y : Int} (h1 : 0 ≤ a) (h2 : a ≤ x) (h3 : 0 ≤ b) (h4 : b ≤ y) : 0 ≤ a * b ∧ a * b ≤ x * y :=
 ⟨Int.mul_nonneg h1 h3, Int.mul_le_mul h2 h4 h3 (Int.le_trans h1 h2)⟩
theorem sumTo_bd {sts : List St} {mix : List Int} (h : eT sts mix = true) : ∀ k, k ≤ mix.length → 0 ≤ sumTo mix k ∧ sumTo mix k ≤ 9 * k
 | 0, _ => by simp [sumTo]
 | k + 1, hk => by
  have := sumTo_bd h k (by omega);have := jQ h (show k < mix.length by omega);simp only [sumTo]; omega
theorem gq {f : St → Int} (hf : ∀ s, stB s = true → 0 ≤ f s ∧ f s ≤ 999) {sts : List St} {mix : List Int} (h : eT sts mix = true) : ∀ k, k ≤ mix.length → 0 ≤ bI f sts mix k ∧ bI f sts mix k ≤ 8991 * k
 | 0, _ => by simp [bI]
 | k + 1, hk => by
  have h1 := gq hf h k (by omega);have h2 := jQ h (show k < mix.length by omega);obtain ⟨h3, h4, _⟩ := dF h;have h5 := hf _ (bR h3 (show k < sts.length by omega));have h6 := jB h2.1 h2.2 h5.1 h5.2;simp only [bI]; omega
theorem jM {sts : List St} {mix : List Int} (h : eT sts mix = true) : mix.length ≤ 4 := by
 obtain ⟨h1, h2, _⟩ := dF h;have := dG h1; omega
theorem stB_c {s : St} (h : stB s = true) : 0 ≤ s.c ∧ s.c ≤ 999 := (eP.1 h).1
theorem stB_m {s : St} (h : stB s = true) : 0 ≤ s.m ∧ s.m ≤ 999 := (eP.1 h).2.1
theorem stB_s {s : St} (h : stB s = true) : 0 ≤ s.s ∧ s.s ≤ 999 := (eP.1 h).2.2.1
theorem stB_p {s : St} (h : stB s = true) : 0 ≤ s.p ∧ s.p ≤ 99 := (eP.1 h).2.2.2.1
theorem stB_p9 {s : St} (h : stB s = true) : 0 ≤ s.p ∧ s.p ≤ 999 := by have := stB_p h; omega
theorem stB_k {s : St} (h : stB s = true) : 0 ≤ s.k ∧ s.k ≤ 9 := (eP.1 h).2.2.2.2
def ups (n : Nat) : List Int := (List.range n).map fun (k : Nat) => (k : Int)
theorem ups_succ (n : Nat) : ups (n + 1) = ups n ++ [(n : Int)] := by simp [ups, List.range_succ]
theorem mem_ups {n : Nat} {x : Int} : x ∈ ups n ↔ 0 ≤ x ∧ x < n := by
 simp only [ups, List.mem_map, List.mem_range];constructor
 ·rintro ⟨k, hk, rfl⟩; omega
 ·rintro ⟨h1, h2⟩; exact ⟨x.toNat, by omega, by omega⟩
def allM : List Int → Int → List (List Int)
 | [], t => if t = 0 then [[]] else []
 | s :: ss, t => (ups (min t s + 1).toNat).flatMap fun n => (allM ss (t - n)).map (n :: ·)
def gu (sts : List St) (g : Gr) (b : Option (List Int × Int)) (mix : List Int) : Option (List Int × Int) :=
 if dP sts mix g && (match b with | none => true | some (_, c) => decide (fH sts mix < c)) then some (mix, fH sts mix) else b
def fD (sts : List St) (g : Gr) (b : Option (List Int × Int)) (l : List (List Int)) : Option (List Int × Int) := l.foldl (gu sts g) b
def dM (sts : List St) (g : Gr) (tons : Int) : Option (List Int) :=
 if dY sts && (grB g && wi tons 1 12) then (fD sts g none (allM (sts.map St.k) tons)).map (·.1) else none
theorem foldM_append (sts : List St) (g : Gr) (b : Option (List Int × Int)) (l l' : List (List Int)) : fD sts g b (l ++ l') = fD sts g (fD sts g b l) l' := by simp [fD]
theorem stepM_cases (sts : List St) (g : Gr) (b : Option (List Int × Int)) (x : List Int) : gu sts g b x = b ∨ (dP sts x g = true ∧ gu sts g b x = some (x, fH sts x)) := by
 unfold gu;generalize (match b with | none => true | some (_, c) => decide (fH sts x < c)) = t;cases h : dP sts x g <;> cases t <;> simp
theorem foldM_cases (sts : List St) (g : Gr) : ∀ (l : List (List Int)) (b : Option (List Int × Int)), fD sts g b l = b ∨ ∃ mix ∈ l, dP sts mix g = true ∧ fD sts g b l = some (mix, fH sts mix)
 | [], b => .inl rfl
 | x :: l, b => by
  have e : fD sts g b (x :: l) = fD sts g (gu sts g b x) l := rfl;rcases foldM_cases sts g l (gu sts g b x) with h | ⟨mix, h1, h2, h3⟩
  ·rcases stepM_cases sts g b x with h' | ⟨h1, h2⟩
   ·exact .inl (by rw [e, h, h'])
   ·exact .inr ⟨x, by simp, h1, by rw [e, h, h2]⟩
  ·exact .inr ⟨mix, by simp [h1], h2, by rw [e, h3]⟩
theorem sumTo_cons (a : Int) (l : List Int) : ∀ k, sumTo (a :: l) (k + 1) = a + sumTo l k
 | 0 => by simp [sumTo]
 | k + 1 => by
  have := sumTo_cons a l k;rw [sumTo, this, sumTo];simp only [List.getD_cons_succ]; omega
theorem allM_mem : ∀ (ss : List Int) (t : Int), ∀ mix ∈ allM ss t, mix.length = ss.length ∧ dV mix = t
 | [], t => by
  intro mix h;unfold allM at h;split at h
  ·simp only [List.mem_singleton] at h; subst h; subst t; exact ⟨rfl, rfl⟩
  ·cases h
 | s :: ss, t => by
  intro mix h;simp only [allM, List.mem_flatMap, List.mem_map] at h;obtain ⟨n, hn, l, hl, rfl⟩ := h;obtain ⟨h1, h2⟩ := allM_mem ss _ l hl;refine ⟨by simp [h1], ?_⟩;unfold dV at h2 ⊢;rw [List.length_cons, sumTo_cons, h2]; omega
theorem best_ok {sts : List St} {g : Gr} {tons : Int} {mix : List Int} (h : dM sts g tons = some mix) : eT sts mix = true ∧ dV mix = tons ∧ 1 ≤ tons ∧ tons ≤ 12 := by
 unfold dM at h;split at h
 ·rename_i hc
  rw [Bool.and_eq_true, Bool.and_eq_true, aN] at hc;rcases foldM_cases sts g (allM (sts.map St.k) tons) none with e | ⟨m, h1, h2, e⟩
  ·rw [e] at h; cases h
  ·rw [e] at h
   simp only [Option.map_some, Option.some.injEq] at h;subst h;unfold dP at h2;rw [Bool.and_eq_true] at h2;exact ⟨h2.1, (allM_mem _ _ _ h1).2, hc.2.2.1, hc.2.2.2⟩
 ·cases h
def ig (sts : List St) (mix : List Int) : List St := (List.range sts.length).map fun k => { sts.getD k st0 with k := (sts.getD k st0).k - mix.getD k 0 }
theorem gM (sts : List St) (mix : List Int) : (ig sts mix).length = sts.length := by simp [ig]
theorem takeM_getD {sts : List St} {mix : List Int} {k : Nat} (hk : k < sts.length) : (ig sts mix).getD k st0 = { sts.getD k st0 with k := (sts.getD k st0).k - mix.getD k 0 } := by
 unfold ig;rw [List.getD_eq_getElem?_getD, List.getElem?_eq_getElem (by simpa using hk)];simp
theorem all_getD {l : List St} : l.all stB = true ↔ ∀ k, k < l.length → stB (l.getD k st0) = true := by
 rw [List.all_eq_true];constructor
 ·intro h k hk
  rw [List.getD_eq_getElem?_getD, List.getElem?_eq_getElem hk]; exact h _ (List.getElem_mem _)
 ·intro h x hx
  obtain ⟨k, hk, rfl⟩ := List.getElem_of_mem hx;have := h k hk
  rwa [List.getD_eq_getElem?_getD, List.getElem?_eq_getElem hk] at this
theorem takeM_ok {sts : List St} {mix : List Int} (h : eT sts mix = true) : dY (ig sts mix) = true := by
 obtain ⟨h1, h2, h3⟩ := dF h;have := dG h1;unfold dY;rw [Bool.and_eq_true, decide_eq_true_iff, all_getD, gM];refine ⟨by omega, fun k hk => ?_⟩;rw [takeM_getD hk];have h5 := eP.1 (bR h1 hk);have h6 := h3 k (by omega);rw [eP];simp only;omega
def bq (sts : List St) : Nat → Int
 | 0 => 0
 | k + 1 => bq sts k + 4 * (sts.getD k st0).k
theorem stock_take {sts : List St} {mix : List Int} (h : eT sts mix = true) : ∀ k, k ≤ sts.length → bq (ig sts mix) k = bq sts k - 4 * sumTo mix k
 | 0, _ => by simp [bq, sumTo]
 | k + 1, hk => by
  have := stock_take h k (by omega);rw [bq, bq, sumTo, this, takeM_getD (by omega)];simp only; omega
theorem stock_bd {sts : List St} (h : dY sts = true) : ∀ k, k ≤ sts.length → 0 ≤ bq sts k ∧ bq sts k ≤ 36 * k
 | 0, _ => by simp [bq]
 | k + 1, hk => by
  have := stock_bd h k (by omega);have := stB_k (bR h (show k < sts.length by omega));simp only [bq]; omega
def dB (a b : Int) : Bool := wi a 1 60 && wi b (a + 1) 60
theorem di {a b : Int} : dB a b = true ↔ (1 ≤ a ∧ a ≤ 60) ∧ (a + 1 ≤ b ∧ b ≤ 60) := by simp [dB, aN]
def wasteAt (t : List Int) (a b : Int) (n : Nat) : Int :=
 let x := if a ≤ n then min (n : Int) (t.getD ((n : Int) - a).toNat 0) else n
 if b ≤ n then min x (t.getD ((n : Int) - b).toNat 0) else x
def tab (a b : Int) : Nat → List Int
 | 0 => []
 | n + 1 => tab a b n ++ [wasteAt (tab a b n) a b n]
theorem eQ (a b : Int) : ∀ n, (tab a b n).length = n
 | 0 => rfl
 | n + 1 => by simp [tab, eQ a b n]
theorem tab_old (a b : Int) {n k : Nat} (h : k < n) : (tab a b (n + 1)).getD k 0 = (tab a b n).getD k 0 := by
 simp only [tab, List.getD_eq_getElem?_getD];rw [List.getElem?_append_left (by rw [eQ]; exact h)]
theorem tab_le (a b : Int) {n m k : Nat} (h : k < n) (hm : n ≤ m) : (tab a b m).getD k 0 = (tab a b n).getD k 0 := by
 induction hm with
 | refl => rfl
 | step hm ih => rw [tab_old a b (Nat.lt_of_lt_of_le h hm), ih]
theorem tab_new (a b : Int) (n : Nat) : (tab a b (n + 1)).getD n 0 = wasteAt (tab a b n) a b n := by
 simp [tab, List.getD, eQ]
theorem tab_bd {a b : Int} : ∀ n k, k < n → 0 ≤ (tab a b n).getD k 0 ∧ (tab a b n).getD k 0 ≤ k
 | 0, k, h => by omega
 | n + 1, k, h => by
  rcases Nat.lt_or_ge k n with hlt | hge
  ·rw [tab_old a b hlt]; exact tab_bd n k hlt
  ·obtain rfl : k = n := by omega
   rw [tab_new];have hb : ∀ j : Nat, 0 ≤ (tab a b k).getD j 0 := fun j => by
    rcases Nat.lt_or_ge j k with hj | hj
    ·exact (tab_bd k j hj).1
    ·rw [List.getD_eq_getElem?_getD, List.getElem?_eq_none (by rw [eQ]; exact hj)]; exact Int.le_refl _
   have h1 := hb ((k : Int) - a).toNat;have h2 := hb ((k : Int) - b).toNat;unfold wasteAt;simp only;split <;> split <;> omega
def eU (t : List Int) (x left : Int) : Bool := decide (x ≤ left) && (t.getD (left - x).toNat 0 == t.getD left.toNat 0)
def cnt (t : List Int) (x : Int) : Nat → Int → Nat
 | 0, _ => 0
 | f + 1, left => if eU t x left then cnt t x f (left - x) + 1 else 0
theorem cnt_le (t : List Int) {x : Int} (hx : 1 ≤ x) : ∀ (f : Nat) (left : Int), 0 ≤ left → (cnt t x f left : Int) * x ≤ left
 | 0, left, h => by simp [cnt]; omega
 | f + 1, left, h => by
  unfold cnt;split
  ·rename_i hm
   unfold eU at hm;rw [Bool.and_eq_true, decide_eq_true_iff] at hm;have := cnt_le t hx f (left - x) (by omega);rw [Int.natCast_add, Int.add_mul]; omega
  ·simp; omega
theorem cnt_fuel (t : List Int) {x : Int} (hx : 1 ≤ x) : ∀ (f g : Nat) (left : Int), 0 ≤ left → left < f → left < g → cnt t x f left = cnt t x g left
 | 0, _, left, h, h1, _ => by omega
 | _ + 1, 0, left, h, _, h2 => by omega
 | f + 1, g + 1, left, h, h1, h2 => by
  unfold cnt;split
  ·rename_i hm
   unfold eU at hm;rw [Bool.and_eq_true, decide_eq_true_iff] at hm;rw [cnt_fuel t hx f g (left - x) (by omega) (by omega) (by omega)]
  ·rfl
def bA (L a b : Int) : Nat := cnt (tab a b (L.toNat + 1)) b (L.toNat + 1) L
def dx (L a b : Int) : Nat := cnt (tab a b (L.toNat + 1)) a (L.toNat + 1) (L - bA L a b * b)
theorem many_le {L a b : Int} (h : dB a b = true) (hL : 0 ≤ L) : (bA L a b : Int) * b ≤ L ∧ (dx L a b : Int) * a + (bA L a b : Int) * b ≤ L := by
 obtain ⟨⟨h1, h2⟩, h3, h4⟩ := di.1 h;have e1 := cnt_le (tab a b (L.toNat + 1)) (show 1 ≤ b by omega) (L.toNat + 1) L hL;have e1' : (bA L a b : Int) * b ≤ L := e1;have e0 := cnt_le (tab a b (L.toNat + 1)) h1 (L.toNat + 1) (L - bA L a b * b) (by omega);have e0' : (dx L a b : Int) * a ≤ L - bA L a b * b := e0;omega
theorem many_bd {L a b : Int} (h : dB a b = true) (hL : 0 ≤ L) : (bA L a b : Int) ≤ L ∧ (dx L a b : Int) ≤ L := by
 obtain ⟨⟨h1, h2⟩, h3, h4⟩ := di.1 h;obtain ⟨e1, e0⟩ := many_le h hL;have f1 : (bA L a b : Int) * 1 ≤ (bA L a b : Int) * b := Int.mul_le_mul_of_nonneg_left (by omega) (by omega);have f0 : (dx L a b : Int) * 1 ≤ (dx L a b : Int) * a := Int.mul_le_mul_of_nonneg_left (by omega) (by omega);have f2 : 0 ≤ (bA L a b : Int) * b := Int.mul_nonneg (by omega) (by omega);omega
def dJ (L a b : Int) : Int := L - dx L a b * a - bA L a b * b
end Go.Proofs.YtkhecelpafojdaaGreatDoor
