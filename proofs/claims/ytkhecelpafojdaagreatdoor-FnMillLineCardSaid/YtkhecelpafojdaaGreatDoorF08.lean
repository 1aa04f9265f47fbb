/-
  Parts of the proofs over mills, of: Facts, WalkB, PostV, HelpJ, DeedOwn, PlainAll, Lists, OwnE, HelpSt, HelpPc. Conditions: each theorem states its own.
-/
import Derived.Test.YtkhecelpafojdaaGreatDoorCards
import Derived.Test.YtkhecelpafojdaaGreatDoorTie
import Derived.Deep.DeepHandedRow
import Derived.LaidMore
import Derived.OpenVars
import Derived.Stop.LaidErr
import Derived.Test.YtkhecelpafojdaaGreatDoorF07
set_option linter.unusedSimpArgs false
set_option linter.unusedVariables false
set_option maxRecDepth 10000
set_option maxHeartbeats 64000000
namespace Go.Proofs.YtkhecelpafojdaaGreatDoor
theorem own : ownKnob Tryz.prog.godebug = none := by kernel_rfl
theorem laidOut : laidOutB Tryz.prog = true := by kernel_rfl
theorem may_ok : Tryz.pinned.checked.prog.mayEnter = true := by kernel_rfl
theorem lifts_ok : (Rows.fnMillLineRow.lifted == Tryz.pinned.checked.prog.liftsFinal) = true := by kernel_rfl
theorem make_ok : (Tryz.pinned.checked.prog.make == some Rows.fnMillLineRow.make) = true := by kernel_rfl
end Go.Proofs.YtkhecelpafojdaaGreatDoor
namespace Go.Proofs.YtkhecelpafojdaaGreatDoor
open Go.RowKit
theorem bF : (Tryz.prog.info? 3).map (fun i => (i.zero, i.size, i.bytes)) = some (some (.int .i64 0), 1, 8) := by kernel_rfl
end Go.Proofs.YtkhecelpafojdaaGreatDoor
namespace Go.Proofs.YtkhecelpafojdaaGreatDoor
open Go.ChangeShapes Go.WideShapes Go.Deep Go.RowKit
section
variable {H : Type} {enc : TypeId × Value → H} {P : Program}
theorem cells_of_strs {w : World} {base : Nat} {sp : Nat → Bool} {held : Bool} {fuel : Nat} {t e : TypeId} {n : Nat} {cs : List Value} {zs : List (List UInt8)} {p : List MemPlace}
 (ht : P.underlying t = some (.array n e)) (he : P.underlying e = some .string) (hce : P.cellsOf e = 1) (hct : P.cellsOf t = n)
 (h : DataW.trod enc P w base sp held fuel t cs = some (.agg (zs.map fun z => .lit (.string z)), p)) : cs = zs.map fun z => Value.string ⟨z.toArray⟩ := by
 cases fuel with
 | zero => simp [DataW.trod] at h
 | succ fuel =>
  simp only [DataW.trod, ht, hce, hct, Nat.mul_one] at h;split at h
  ·rename_i hl
   obtain ⟨xs, hm, hx⟩ := Option.map_eq_some_iff.1 h;have hxs : xs.map (·.1) = zs.map fun z => (DataW.lit (.string z) : DataW H) := by
    have := congrArg Prod.fst hx;simpa using this
   have hxl : xs.length = n := by simpa using Lib.mapM_length hm
   have hzl : zs.length = n := by
    have := congrArg List.length hxs;simp at this;omega
   apply List.ext_getElem?;intro i;by_cases hi : i < n
   ·obtain ⟨b, hb, hf⟩ := Lib.mapM_at hm i i (by simp [hi])
    obtain ⟨z, hc, rfl, _⟩ := DataW.trod_string he hf;have h1 : cs[i]? = some (.string z) := by
     have := congrArg (·[0]?) hc
     simpa [List.getElem?_take, List.getElem?_drop] using this
    have h2 : (xs.map (·.1))[i]? = some (DataW.lit (.string z.data.toList) : DataW H) := by simp [hb]
    rw [hxs] at h2;simp only [List.getElem?_map, Option.map_eq_some_iff, DataW.lit.injEq, Lit.string.injEq] at h2;obtain ⟨z', hz', e'⟩ := h2;subst e';simp [h1, hz']
   ·rw [List.getElem?_eq_none (by omega), List.getElem?_eq_none (by simp; omega)]
  ·cases h
theorem law_post_v {f : Func} {s : ChangeSpec} {apart fresh handsOn : Bool} {W W' : World} {args : Array Value} {ds gs : List (DataW H)} {before : List MemPlace} {tb : TypeId}
 (hl : laidOutB P = true) (hts : ∀ t ∈ f.params.toList, P.readableRec t = true ∧ t < P.types.size) (hr : f.resultTypes = #[tb]) (hbool : P.underlying tb = some .bool)
 (hv : varsRowed P s.vars = true) (hsf : s.fn H (ds ++ gs) = { results := [.lit (.bool true)], args := ds, vars := gs })
 (hW : DataW.Whole enc P f.params.toList s.vars apart W args.toList ds gs before) (hb : Below W.heap.size W W') :
 s.post enc P f apart fresh handsOn false W args (.bool true) W' := by
 have hlt : ∀ p ∈ before, p.block < W.heap.size := fun p hp => hW.lt p hp;have hW0 := hW;obtain ⟨p, q, hA, hV, rfl, hz, hn⟩ := hW;have hargs : ∀ sp : Nat → Bool, (∀ x ∈ p, sp x.block = true) → DataW.TrodAll enc P W' 0 sp true f.params.toList args.toList (s.fn H (ds ++ gs)).args p := fun sp hsp => by
  rw [hsf];exact trodAll_stays hl hb sp hts hA (fun x hx => hlt x (List.mem_append_left _ hx)) hsp
 have hvars : DataW.TrodVars enc P W' (fun b => decide (b < W.heap.size)) s.vars (s.fn H (ds ++ gs)).vars q := by
  rw [hsf]; exact Below.trodVars hl hb hv hV
 have hres : ∀ (b : Nat) (sp : Nat → Bool) (hd : Bool), DataW.TrodAll enc P W' b sp hd f.resultTypes.toList ((Value.bool true).resultList f.resultTypes.size) (s.fn H (ds ++ gs)).results [] := fun b sp hd => by
  rw [hsf, hr];exact trodAll_mk1 (shut_bool hbool _)
 have hold : ∀ x ∈ p, (fun b => decide (b < W.heap.size)) x.block = true := fun x hx => by simpa using hlt x (List.mem_append_left _ hx)
 refine ⟨ds, gs, p ++ q, [], p, q, hW0, hres _ _ _, hargs _ hold, hvars, World.keptBut_mono (fun x hx => ⟨hx, ?_⟩) (hb.frame (· ∈ p ++ q)), fun h => by cases h⟩
 rcases List.mem_append.1 hx with h | h
 ·exact Or.inr (Or.inl h)
 ·exact Or.inr (Or.inr h)
end
end Go.Proofs.YtkhecelpafojdaaGreatDoor
namespace Go.Proofs.YtkhecelpafojdaaGreatDoor
open Go.ChangeShapes Go.WideShapes Go.Deep Go.RowKit
theorem pow_of {W : World} {rest : List (String × DataW Unit)} (h : laidMet Tryz.prog (("internal/strconv.uint64pow10", Rows.laid_internal_strconv_uint64pow10) :: rest) W) : ik W :=
 Lib.tabIs_of_head (zs := Lib.pow10Tab) g_pow (t := ((Tryz.prog.globals[2]?).map (·.type)).getD 0) (by kernel_rfl) (e := 169) (n := 20) (by kernel_rfl) (by kernel_rfl) (by kernel_rfl) (by kernel_rfl) h
theorem names_of {W : World} {rest : List (String × DataW Unit)} (h : laidMet Tryz.prog (("loop.example/steelmill/impl.deedNames", Rows.laid_loop_example_steelmill_impl_deedNames) :: rest) W) : dz W := by
 obtain ⟨ps, ⟨g', t', cs, fuel, p, q, hg', ht', hvar, hd, _, _⟩, _⟩ := h;obtain rfl := Option.some.inj (g_names.symm.trans hg');obtain rfl : 75 = t' := Option.some.inj ((show (Tryz.prog.globals[0]?).map (·.type) = some 75 by kernel_rfl).symm.trans ht')
 unfold dz;rw [hvar];have := cells_of_strs (zs := [[109, 101, 108, 116], [99, 117, 116], [114, 111, 108, 108], [108, 105, 102, 116], [115, 104, 105, 112]]) Tryz.underlying75 Tryz.underlying9 (by kernel_rfl) (by kernel_rfl) hd;congr 1;apply Array.toList_inj.1;rw [this];rfl
end Go.Proofs.YtkhecelpafojdaaGreatDoor
namespace Go.Proofs.YtkhecelpafojdaaGreatDoor
open Go.RowKit
theorem info_J : (Tryz.prog.info? 42).map (fun i => (i.zero, i.size, i.bytes)) = some (some (.agg #[.int .i64 0, .int .i64 0, .int .i64 0]), 3, 24) := by kernel_rfl
theorem bz.nil (lo hi : Nat) (w : World) (ao : Option Addr) (cap : Nat) (hc : cap ≤ 9223372036854775807) (h : hi ≤ w.heap.size) : bz lo hi w (.slice ao 0 cap) [] :=
 ⟨ao, cap, rfl, Nat.zero_le _, hc, h, fun h => absurd h (Nat.not_lt_zero _)⟩
def dL (x : J) : List Value := [.int .i64 x.s, .int .i64 x.d, .int .i64 x.g]
def dh (xs : List J) : List Value := xs.flatMap dL
theorem dQ (a b : List J) : dh (a ++ b) = dh a ++ dh b := by simp [dh]
theorem flatD_at : ∀ (xs : List J) (i : Nat) (h : i < xs.length), (dh xs)[i * 3]? = some (.int .i64 xs[i].s) ∧ (dh xs)[i * 3 + 1]? = some (.int .i64 xs[i].d) ∧ (dh xs)[i * 3 + 2]? = some (.int .i64 xs[i].g)
 | x :: xs, 0, _ => ⟨rfl, rfl, rfl⟩
 | x :: xs, i + 1, h => by
  have := flatD_at xs i (by simpa using h);have e : dh (x :: xs) = dL x ++ dh xs := rfl;rw [e, show (i + 1) * 3 = i * 3 + 3 by omega, show i * 3 + 3 + 1 = i * 3 + 1 + 3 by omega, show i * 3 + 3 + 2 = i * 3 + 2 + 3 by omega];rw [List.getElem?_append_right (by simp [dL]), List.getElem?_append_right (by simp [dL]), List.getElem?_append_right (by simp [dL])];simpa [dL] using this
theorem ownD_at1 {w : World} {base n g cap : Nat} {xs : List J} (h : w.ownsRow base 42 3 (.slice (some ⟨g, 0, none⟩) n cap) n (dh xs)) (hn : n = xs.length) : base ≤ g ∧ g < w.heap.size ∧ bz g (g + 1) w (.slice (some ⟨g, 0, none⟩) n cap) xs := by
 subst hn;have hlt := h.lt g rfl;obtain ⟨ao, cap', e, h1, h2⟩ := aB h;simp only [Value.slice.injEq] at e;obtain ⟨-, -, rfl⟩ := e;refine ⟨hlt.1, hlt.2, some ⟨g, 0, none⟩, cap, rfl, h1, h2, hlt.2, fun _ => ⟨g, 0, rfl, Nat.le_refl _, Nat.lt_succ_self _, fun i hi => ?_⟩⟩;obtain ⟨f0, f1, f2⟩ := flatD_at xs i hi;have c := h.cells rfl;simp only [Nat.zero_add];refine ⟨⟨by have := c _ _ f0; rw [adds] at this; exact this, by have := c _ _ f1; rw [adds] at this; exact this, by have := c _ _ f2; rw [adds] at this; exact this⟩, h.frozenAt _, h.frozenAt _, h.frozenAt _⟩
theorem ownD_one {w : World} {base n : Nat} {v : Value} {xs : List J} (h : w.ownsRow base 42 3 v n (dh xs)) (hn : n = xs.length) (hb : base ≤ w.heap.size) :
 ∃ a z, base ≤ a ∧ a ≤ z ∧ z ≤ w.heap.size ∧ bz a z w v xs ∧ ∀ k, a ≤ k → k < z → v.ownBlock = some k := by
 rcases id h.2 with ⟨rfl, h0⟩ | ⟨g, cap, cur, rfl, -, -, -, -, -, -⟩
 ·have : xs = [] := List.eq_nil_of_length_eq_zero (by omega)
  subst this;exact ⟨base, base, Nat.le_refl _, Nat.le_refl _, hb, bz.nil _ _ _ _ _ (by omega) hb, fun k h1 h2 => by omega⟩
 ·obtain ⟨h1, h2, h3⟩ := ownD_at1 h hn
  exact ⟨g, g + 1, h1, by omega, h2, h3, fun k k1 k2 => by show some g = some k; rw [show g = k by omega]⟩
theorem ownD_at {w : World} {base n : Nat} {v : Value} {xs : List J} (h : w.ownsRow base 42 3 v n (dh xs)) (hn : n = xs.length) (hb : base ≤ w.heap.size) : bz base w.heap.size w v xs := by
 obtain ⟨a, z, h1, h2, h3, h4, -⟩ := ownD_one h hn hb;exact h4.mono h1 h3 nl
theorem Apart.grow {u u' v : Value} {w : World} {base T sz n : Nat} {cs : List Value} (h : Apart u v) (hv : w.ownsRow base T sz v n cs) (h4 : u'.ownBlock = u.ownBlock ∨ u'.ownBlock = some w.heap.size) : Apart u' v := fun k h1 h2 => by
 rcases h4 with e | e
 ·exact h k (e ▸ h1) h2
 ·rw [e] at h1
  have := (hv.lt k h2).2;have := Option.some.inj h1;omega
theorem iG {w w' : World} {u v : Value} {base T sz n : Nat} {cs : List Value} (h : w.ownsRow base T sz v n cs) (hg : w.grownBy w' u.ownBlock) (ha : Apart u v) : w'.ownsRow base T sz v n cs :=
 jA h hg fun k hk e => ha k e.symm hk
def DeedsNew (base : Nat) (js : List J) (w : World) (e : Ending) (w' : World) : Prop := ∃ v, e = .returned v ∧ w'.ownsRow base 42 3 v js.length (dh js) ∧ Below base w w'
theorem slab_take {l : List Int} {k : Nat} (hk : k < l.length) : (l.take (k + 1)).flatMap eG = (l.take k).flatMap eG ++ eG l[k] := by
 rw [List.take_succ_eq_append_getElem hk, List.flatMap_append]; simp
def dH (pre : List Int) (l : List (List Int)) : List (List Int) := l.map (pre ++ ·)
theorem withP_app (pre : List Int) (a b : List (List Int)) : dH pre (a ++ b) = dH pre a ++ dH pre b := by simp [dH]
theorem withP_none (l : List (List Int)) : dH [] l = l := by simp [dH]
def part (ss : List Int) (t : Int) (n : Nat) : List (List Int) := (ups n).flatMap fun n => (allM ss (t - n)).map (n :: ·)
theorem part_zero (ss : List Int) (t : Int) : part ss t 0 = [] := rfl
theorem part_succ (ss : List Int) (t : Int) (n : Nat) : part ss t (n + 1) = part ss t n ++ (allM ss (t - n)).map ((n : Int) :: ·) := by
 simp [part, ups_succ]
theorem allM_cons (s : Int) (ss : List Int) (t : Int) : allM (s :: ss) t = part ss t (min t s + 1).toNat := rfl
theorem withP_succ (pre ss : List Int) (t : Int) (n : Nat) : dH pre (part ss t (n + 1)) = dH pre (part ss t n) ++ dH (pre ++ [(n : Int)]) (allM ss (t - n)) := by
 rw [part_succ, withP_app];simp [dH]
theorem allM_end (t : Int) (pre : List Int) : dH pre (allM [] t) = if t = 0 then [pre] else [] := by
 unfold allM dH;split <;> simp
def bN (sts : List St) (k : Nat) : List Int := (sts.map St.k).drop k
theorem stocks_zero (sts : List St) : bN sts 0 = sts.map St.k := rfl
theorem stocks_end (sts : List St) : bN sts sts.length = [] := by simp [bN]
theorem stocks_cons {sts : List St} {k : Nat} (hk : k < sts.length) : bN sts k = (sts.getD k st0).k :: bN sts (k + 1) := by
 unfold bN;rw [List.drop_eq_getElem_cons (by simpa using hk)];simp [hk]
theorem allM_at {sts : List St} {k : Nat} (hk : k < sts.length) (t : Int) : allM (bN sts k) t = part (bN sts (k + 1)) t (min t (sts.getD k st0).k + 1).toNat := by
 rw [stocks_cons hk, allM_cons]
theorem foldM_nil (sts : List St) (g : Gr) (b : Option (List Int × Int)) : fD sts g b [] = b := rfl
theorem foldM_one (sts : List St) (g : Gr) (b : Option (List Int × Int)) (x : List Int) : fD sts g b [x] = gu sts g b x := rfl
theorem foldM_snoc (sts : List St) (g : Gr) (b : Option (List Int × Int)) (l : List (List Int)) (x : List Int) : fD sts g b (l ++ [x]) = gu sts g (fD sts g b l) x := by
 rw [foldM_append]; rfl
theorem withP_len (pre : List Int) (l : List (List Int)) : (dH pre l).length = l.length := by simp [dH]
theorem part_len (ss : List Int) (t : Int) (B : Nat) (h : ∀ t, (allM ss t).length ≤ B) : ∀ n, (part ss t n).length ≤ n * B
 | 0 => by simp [part_zero]
 | n + 1 => by
  have h1 := part_len ss t B h n;have h2 := h (t - n);rw [part_succ, List.length_append, List.length_map, Nat.succ_mul]; omega
theorem allM_len : ∀ (ss : List Int), (∀ s ∈ ss, s ≤ 9) → ∀ t, (allM ss t).length ≤ 10 ^ ss.length
 | [], _, t => by unfold allM; split <;> simp
 | s :: ss, h, t => by
  have ih := allM_len ss fun x hx => h x (by simp [hx]);have hs := h s (by simp);have := part_len ss t _ ih (min t s + 1).toNat;rw [allM_cons, List.length_cons, Nat.pow_succ, Nat.mul_comm];exact Nat.le_trans this (Nat.mul_le_mul_right _ (by omega))
theorem jD {lo hi : Nat} {w : World} {v : Value} {xs : List St} (h : bW lo hi w v xs) {k : Nat} (hk : k < xs.length) :
 ∃ b o cap, v = .slice (some ⟨b, o, none⟩) xs.length cap ∧ lo ≤ b ∧ b < hi ∧
  (w.cell? ⟨b, o + k * 5, none⟩ = some (.int .i64 (xs.getD k st0).c) ∧ w.cell? ⟨b, o + k * 5 + 1, none⟩ = some (.int .i64 (xs.getD k st0).m) ∧ w.cell? ⟨b, o + k * 5 + 2, none⟩ = some (.int .i64 (xs.getD k st0).s) ∧ w.cell? ⟨b, o + k * 5 + 3, none⟩ = some (.int .i64 (xs.getD k st0).p) ∧ w.cell? ⟨b, o + k * 5 + 4, none⟩ = some (.int .i64 (xs.getD k st0).k)) := by
 obtain ⟨ao, cap, rfl, h1, h2, h3, h4⟩ := h;obtain ⟨b, o, rfl, b1, b2, hc⟩ := h4 (by omega);have hg : xs.getD k st0 = xs[k] := by simp [hk]
 rw [hg];exact ⟨b, o, cap, rfl, b1, b2, (hc k hk).1⟩
theorem pc_at {lo hi : Nat} {w : World} {v : Value} {xs : List Pc} (h : fo lo hi w v xs) {k : Nat} (hk : k < xs.length) :
 ∃ b o cap, v = .slice (some ⟨b, o, none⟩) xs.length cap ∧ lo ≤ b ∧ b < hi ∧
  (w.cell? ⟨b, o + k * 2, none⟩ = some (.int .i64 (xs.getD k pc0).l) ∧ w.cell? ⟨b, o + k * 2 + 1, none⟩ = some (.int .i64 (xs.getD k pc0).s)) := by
 obtain ⟨ao, cap, rfl, h1, h2, h3, h4⟩ := h;obtain ⟨b, o, rfl, b1, b2, hc⟩ := h4 (by omega);have hg : xs.getD k pc0 = xs[k] := by simp [hk]
 rw [hg];exact ⟨b, o, cap, rfl, b1, b2, (hc k hk).1⟩
def Lists (lo : Nat) (w : World) (v : Value) (us : List Value) (xss : List (List Int)) : Prop :=
 us.length = xss.length ∧ ∀ i (_ : i < xss.length), ∃ u a z, us[i]? = some u ∧ lo ≤ a ∧ au a z w u xss[i] ∧ ∀ g, v.ownBlock = some g → g < a ∨ z ≤ g
theorem Lists.none (lo : Nat) (w : World) (v : Value) : Lists lo w v [] [] := ⟨rfl, fun _ h => absurd h (Nat.not_lt_zero _)⟩
theorem Lists.below {lo : Nat} {w w' : World} {v : Value} {us : List Value} {xss : List (List Int)} (h : Lists lo w v us xss) (k : Below w.heap.size w w') : Lists lo w' v us xss :=
 ⟨h.1, fun i hi => by
  obtain ⟨u, a, z, h1, h2, h3, h4⟩ := h.2 i hi;exact ⟨u, a, z, h1, h2, h3.below k, h4⟩⟩
theorem Lists.mono {lo lo' : Nat} {w : World} {v : Value} {us : List Value} {xss : List (List Int)} (h : Lists lo w v us xss) (k : lo' ≤ lo) : Lists lo' w v us xss :=
 ⟨h.1, fun i hi => by
  obtain ⟨u, a, z, h1, h2, h3, h4⟩ := h.2 i hi;exact ⟨u, a, z, h1, Nat.le_trans k h2, h3, h4⟩⟩
theorem Lists.off {lo lo' : Nat} {w : World} {v v' : Value} {us : List Value} {xss : List (List Int)} (h : Lists lo w v us xss) (k : lo' ≤ lo) (hv : ∀ g, v'.ownBlock = some g → g < lo) : Lists lo' w v' us xss :=
 ⟨h.1, fun i hi => by
  obtain ⟨u, a, z, h1, h2, h3, h4⟩ := h.2 i hi;exact ⟨u, a, z, h1, Nat.le_trans k h2, h3, fun g hg => .inl (Nat.lt_of_lt_of_le (hv g hg) h2)⟩⟩
theorem Lists.grow {lo : Nat} {w w' : World} {v v' : Value} {us : List Value} {xss : List (List Int)} (h : Lists lo w v us xss) (hg : w.grownBy w' v.ownBlock) (hv : v'.ownBlock = v.ownBlock ∨ v'.ownBlock = some w.heap.size) : Lists lo w' v' us xss :=
 ⟨h.1, fun i hi => by
  obtain ⟨u, a, z, h1, h2, h3, h4⟩ := h.2 i hi;refine ⟨u, a, z, h1, h2, h3.keep (fun k k1 k2 => hg.block k (Nat.lt_of_lt_of_le k2 h3.lt) fun e => ?_) hg.size, fun g e => ?_⟩
  ·have := h4 k e.symm
   omega
  ·rcases hv with hv | hv
   ·exact h4 g (by rw [← hv]; exact e)
   ·rw [hv] at e
    have := Option.some.inj e;exact .inr (by have := h3.lt; omega)⟩
theorem Lists.append {lo : Nat} {w : World} {v : Value} {us us' : List Value} {xss xss' : List (List Int)} (h : Lists lo w v us xss) (h' : Lists lo w v us' xss') : Lists lo w v (us ++ us') (xss ++ xss') := by
 refine ⟨by rw [List.length_append, List.length_append, h.1, h'.1], fun i hi => ?_⟩;rw [List.length_append] at hi;rcases Nat.lt_or_ge i xss.length with hlt | hge
 ·obtain ⟨u, a, z, h1, h2, h3, h4⟩ := h.2 i hlt
  refine ⟨u, a, z, by rw [List.getElem?_append_left (by rw [h.1]; exact hlt)]; exact h1, h2, ?_, h4⟩;rw [List.getElem_append_left hlt]; exact h3
 ·obtain ⟨u, a, z, h1, h2, h3, h4⟩ := h'.2 (i - xss.length) (by omega)
  refine ⟨u, a, z, by rw [List.getElem?_append_right (by rw [h.1]; exact hge), h.1]; exact h1, h2, ?_, h4⟩;rw [List.getElem_append_right hge]; exact h3
theorem Lists.one {lo a z : Nat} {w : World} {v u : Value} {xs : List Int} (h : au a z w u xs) (hlo : lo ≤ a) (hv : ∀ g, v.ownBlock = some g → g < a ∨ z ≤ g) : Lists lo w v [u] [xs] :=
 ⟨rfl, fun i hi => by
  obtain rfl : i = 0 := by simpa using hi
  exact ⟨u, a, z, rfl, hlo, h, hv⟩⟩
theorem own_put {w : World} {base T sz n : Nat} {v : Value} {cs : List Value} (h : w.ownsRow base T sz v n cs) {g j : Nat} (hg : v.ownBlock = some g) (u : Value) :
 (w.setCell ⟨g, j, none⟩ u).ownsRow base T sz v n (cs.set j u) ∧ ai g (g + 1) w (w.setCell ⟨g, j, none⟩ u) := by
 refine ⟨?_, ai.setCell (p := ⟨g, j, none⟩) (ai.refl _ _ _) nl ns u⟩;rcases id h.2 with ⟨rfl, -⟩ | ⟨g', cap, cur, rfl, -⟩
 ·cases hg
 ·obtain rfl : g' = g := Option.some.inj hg
  exact (h.stored j u).1
theorem flatI_set (xs : List Int) (k : Nat) (x : Int) : aC (xs.set k x) = (aC xs).set k (.int .i64 x) := by simp [aC, List.map_set]
theorem iA {w : World} {base T T' sz n G : Nat} {v : Value} {cs vs : List Value} (h : w.ownsRow base T sz v n cs) (hr : ae w G T' vs) (hT : T ≠ T') : ∀ g, v.ownBlock = some g → g ≠ G := by
 intro g hg e;subst e;rcases h.2 with ⟨rfl, -⟩ | ⟨g', cap, cur, rfl, -, hb, -⟩
 ·cases hg
 ·obtain rfl : g' = g := Option.some.inj hg
  obtain ⟨c, hb', -, -⟩ := hr;rw [hb] at hb';injection Option.some.inj hb' with _ e2 _;exact hT e2
def aK (base T sz : Nat) (w : World) (v : Value) (n : Nat) (cs : List Value) : Prop :=
 w.ownsRow base T sz v n cs ∨ (∃ g, v = .slice (some ⟨g, 0, none⟩) 0 0 ∧ base ≤ g ∧ g < w.heap.size ∧ n = 0 ∧ cs = [])
theorem aK.own {base T sz n : Nat} {w : World} {v : Value} {cs : List Value} (h : w.ownsRow base T sz v n cs) : aK base T sz w v n cs := Or.inl h
theorem aK.below {base T sz B n : Nat} {w w' : World} {v : Value} {cs : List Value} (h : aK base T sz w v n cs) (k : Below B w w') (hB : w.heap.size ≤ B) : aK base T sz w' v n cs := by
 rcases h with h | ⟨g, h1, h2, h3, h4, h5⟩
 ·exact .inl (ownsRow_below h k hB)
 ·exact .inr ⟨g, h1, h2, Nat.lt_of_lt_of_le h3 k.size, h4, h5⟩
theorem aK.other {base T sz lo hi n : Nat} {w w' : World} {v : Value} {cs : List Value} (h : aK base T sz w v n cs) (k : ai lo hi w w') (hd : ∀ g, v.ownBlock = some g → g < lo ∨ hi ≤ g) : aK base T sz w' v n cs := by
 rcases h with h | ⟨g, h1, h2, h3, h4, h5⟩
 ·exact .inl (bJ h k hd)
 ·exact .inr ⟨g, h1, h2, Nat.lt_of_lt_of_le h3 k.size, h4, h5⟩
theorem aK.grown {base T sz n : Nat} {w w' : World} {row : Option Nat} {v : Value} {cs : List Value} (h : aK base T sz w v n cs) (k : w.grownBy w' row) (hd : ∀ g, v.ownBlock = some g → some g ≠ row) : aK base T sz w' v n cs := by
 rcases h with h | ⟨g, h1, h2, h3, h4, h5⟩
 ·exact .inl (jA h k hd)
 ·exact .inr ⟨g, h1, h2, Nat.lt_of_lt_of_le h3 k.size, h4, h5⟩
theorem aK.alloc {base T sz n : Nat} {w : World} {v : Value} {cs : List Value} (h : aK base T sz w v n cs) (o : Obj) : aK base T sz (w.alloc o) v n cs :=
 h.below ((Below.refl w.heap.size w).alloc nl o) nl
theorem aK.drew {base T sz n : Nat} {w : World} {v : Value} {cs : List Value} (h : aK base T sz w v n cs) : aK base T sz w.drew v n cs := h
theorem aK.mono {base base' T sz n : Nat} {w : World} {v : Value} {cs : List Value} (h : aK base T sz w v n cs) (hb : base' ≤ base) : aK base' T sz w v n cs := by
 rcases h with h | ⟨g, h1, h2, h3⟩
 ·exact .inl (aJ h hb)
 ·exact .inr ⟨g, h1, by omega, h3⟩
theorem aK.lt {base T sz n : Nat} {w : World} {v : Value} {cs : List Value} (h : aK base T sz w v n cs) : ∀ g, v.ownBlock = some g → base ≤ g ∧ g < w.heap.size := by
 rcases h with h | ⟨g, rfl, h2, h3, -⟩
 ·exact h.lt
 ·intro k hk
  obtain rfl : g = k := Option.some.inj hk;exact ⟨h2, h3⟩
theorem aK.form {base T sz n : Nat} {w : World} {v : Value} {cs : List Value} (h : aK base T sz w v n cs) : ∃ ao cap, v = .slice ao n cap ∧ n ≤ cap ∧ cap ≤ 9223372036854775807 := by
 rcases h with h | ⟨g, rfl, -, -, rfl, -⟩
 ·exact aB h
 ·exact ⟨_, _, rfl, Nat.le_refl _, by omega⟩
theorem aK.apart {base B T sz T' sz' n n' : Nat} {w w' : World} {v v' : Value} {cs cs' : List Value} (h : aK base T sz w v n cs) (h' : aK B T' sz' w' v' n' cs') (hB : w.heap.size ≤ B) : Apart v v' := fun k h1 h2 => by
 have := (h.lt k h1).2;have := (h'.lt k h2).1;omega
theorem ownE_I {w : World} {base n : Nat} {v : Value} {xs : List Int} (h : aK base 3 1 w v n (aC xs)) (hn : n = xs.length) (hb : base ≤ w.heap.size) :
 ∃ a z, base ≤ a ∧ a ≤ z ∧ z ≤ w.heap.size ∧ au a z w v xs ∧ z ≤ a + 1 ∧ ∀ k, a ≤ k → k < z → v.ownBlock = some k := by
 rcases h with h | ⟨g, rfl, h2, h3, h4, h5⟩
 ·exact ownI_one h hn hb
 ·have : xs = [] := List.eq_nil_of_length_eq_zero (by omega)
  subst this;exact ⟨base, base, Nat.le_refl _, Nat.le_refl _, hb, au.none _ _ _ _ _ (by omega) hb, by omega, fun k h1 h2 => by omega⟩
theorem ownE_P {w : World} {base n : Nat} {v : Value} {xs : List Pc} (h : aK base 63 2 w v n (bO xs)) (hn : n = xs.length) (hb : base ≤ w.heap.size) :
 ∃ a z, base ≤ a ∧ a ≤ z ∧ z ≤ w.heap.size ∧ fo a z w v xs ∧ z ≤ a + 1 ∧ ∀ k, a ≤ k → k < z → v.ownBlock = some k := by
 rcases h with h | ⟨g, rfl, h2, h3, h4, h5⟩
 ·exact ownPc_one h hn hb
 ·have : xs = [] := List.eq_nil_of_length_eq_zero (by omega)
  subst this;exact ⟨base, base, Nat.le_refl _, Nat.le_refl _, hb, fo.nil _ _ _ _ _ (by omega) hb, by omega, fun k h1 h2 => by omega⟩
theorem ownE_S {w : World} {base n : Nat} {v : Value} {xs : List St} (h : aK base 99 5 w v n (bB xs)) (hn : n = xs.length) (hb : base ≤ w.heap.size) :
 ∃ a z, base ≤ a ∧ a ≤ z ∧ z ≤ w.heap.size ∧ bW a z w v xs ∧ z ≤ a + 1 ∧ ∀ k, a ≤ k → k < z → v.ownBlock = some k := by
 rcases h with h | ⟨g, rfl, h2, h3, h4, h5⟩
 ·exact ownSt_one h hn hb
 ·have : xs = [] := List.eq_nil_of_length_eq_zero (by omega)
  subst this;exact ⟨base, base, Nat.le_refl _, Nat.le_refl _, hb, bW.nil _ _ _ _ _ (by omega) hb, by omega, fun k h1 h2 => by omega⟩
theorem iy {w : World} {base n : Nat} {v : Value} {xs : List Int} (h : aK base 3 1 w v n (aC xs)) (hn : n = xs.length) (hb : base ≤ w.heap.size) : au base w.heap.size w v xs := by
 obtain ⟨a, z, h1, h2, h3, h4, -⟩ := ownE_I h hn hb;exact h4.mono h1 h3 nl
theorem aK.put {base T sz n : Nat} {w : World} {v : Value} {cs : List Value} (h : aK base T sz w v n cs) (hn : 0 < n) {g j : Nat} (hg : v.ownBlock = some g) (u : Value) :
 aK base T sz (w.setCell ⟨g, j, none⟩ u) v n (cs.set j u) ∧ ai g (g + 1) w (w.setCell ⟨g, j, none⟩ u) := by
 rcases h with h | ⟨g', h1, h2, h3, h4, h5⟩
 ·obtain ⟨a, b⟩ := own_put h hg (j := j) u
  exact ⟨.inl a, b⟩
 ·omega
theorem aK.lit {base T sz g : Nat} {w : World} (h1 : base ≤ g) (h2 : g < w.heap.size) : aK base T sz w (.slice (some ⟨g, 0, none⟩) 0 0) 0 [] := .inr ⟨g, rfl, h1, h2, rfl, rfl⟩
theorem Below.growE {base T sz n B : Nat} {w w' : World} {v : Value} {cs : List Value} (hg : w.grownBy w' v.ownBlock) (ho : aK base T sz w v n cs) (hb : B ≤ base) (hB : B ≤ w.heap.size) : Below B w w' :=
 (Below.refl _ _).grown hg hB fun k hk => Nat.le_trans hb (ho.lt k hk).1
end Go.Proofs.YtkhecelpafojdaaGreatDoor
namespace Go.Proofs.YtkhecelpafojdaaGreatDoor
open Go.RowKit
section
variable {P : Program} {w : World}
theorem run_append_E (base : Nat) (t ty e : TypeId) (i : TypeInfo) (z : Value) (size bytes : Nat) (ht : P.underlying t = some (.slice e)) (hi : P.info? e = some i) (hz : i.zero = some z)
 (hsize : i.size = size) (hby : i.bytes = bytes) (hzs : z.cells.size = size) (hsz : 0 < size)
 (v : Value) (n : Nat) (xs : List Value) (hown : aK base e size w v n xs) (x : Value) (m : Nat) (news : List Value) (hx : Source w size x m news)
 (h63 : n + m ≤ maxLen) (hbytes : (n + m) * bytes ≤ 140737488355328) (hbase : base ≤ w.heap.size) :
 ∃ v' w', (Builtin.append_ #[t, t] ty #[v, x]).run P w = .ok v' w' ∧ aK base e size w' v' (n + m) (xs ++ news) ∧ w.grownBy w' v.ownBlock ∧
  (∀ g, v'.ownBlock = some g → v.ownBlock = some g ∨ w.heap.size ≤ g) := by
 rcases hown with hown | ⟨g, rfl, h2, h3, rfl, rfl⟩
 ·obtain ⟨v', w', hr, a1, a2, a3⟩ := run_append_view (P := P) (w := w) base t ty e i z size bytes ht hi hz hsize hby hzs hsz v n xs hown x m news hx h63 hbytes hbase
  refine ⟨v', w', hr, .inl a1, a2, fun g hg => ?_⟩;rcases a3 with a3 | a3
  ·exact .inl (by rw [← a3]; exact hg)
  ·rw [a3] at hg
   exact .inr (by have := Option.some.inj hg; omega)
 ·obtain ⟨⟨ao, c, rfl, g1, g2⟩, hl, ho⟩ := hx
  rcases Nat.eq_zero_or_pos m with rfl | hm
  ·obtain rfl : news = [] := List.eq_nil_of_length_eq_zero (by omega)
   refine ⟨_, w, ?_, .inr ⟨g, rfl, h2, h3, rfl, rfl⟩, ⟨rfl, rfl, rfl, Nat.le_refl _, fun _ _ _ => rfl⟩, fun g hg => .inl hg⟩;cases ao <;> simp [Builtin.append_, run_underlying ht, sizeOf, typeInfo, hi, Builtin.lenOf, Builtin.firstCells, loadCells, loadCellsFrom, storeCells]
  ·cases ao with
   | none => have := g1 rfl; omega
   | some ad =>
    obtain ⟨v', w', hr, a1, a2⟩ := run_append_arg_grows (P := P) w t ty e i z size bytes ht hi hz hsize hby hzs hsz ⟨g, 0, none⟩ 0 0 [] (by simp) (fun j u h => by simp at h) ad m c news hl (g2 ad rfl) (by omega) h63 hbytes;exact ⟨v', w', hr, .inl (aJ a1 hbase), ⟨a2.os, a2.tape, a2.output, a2.size, fun k hk _ => a2.block k hk (by simp)⟩, fun g hg => .inr (a1.lt g hg).1⟩
theorem wp_append_E {o : Oper} {a : Act} {K : Act → World → Prop} {Q : Exit → Act → World → Prop} (s x : Operand) (t : TypeId)
 (ho : o.op = .call { callee := .builtin .append, args := #[s, x], argTypes := #[t, t] })
 (base : Nat) (e : TypeId) (i : TypeInfo) (z : Value) (size bytes : Nat) (ht : P.underlying t = some (.slice e)) (hi : P.info? e = some i) (hz : i.zero = some z)
 (hsize : i.size = size) (hby : i.bytes = bytes) (hzs : z.cells.size = size) (hsz : 0 < size)
 (v : Value) (n : Nat) (xs : List Value) (hs : a.eval s = v) (hown : aK base e size w v n xs) (y : Value) (m : Nat) (news : List Value) (hx : a.eval x = y) (hy : Source w size y m news)
 (h63 : n + m ≤ maxLen) (hbytes : (n + m) * bytes ≤ 140737488355328) (hbase : base ≤ w.heap.size)
 (h : ∀ v' w', aK base e size w' v' (n + m) (xs ++ news) → w.grownBy w' v.ownBlock → (∀ g, v'.ownBlock = some g → v.ownBlock = some g ∨ w.heap.size ≤ g) → K (a.put o.dst v') w') : o.wp P a w K Q := by
 obtain ⟨v', w', hr, h2, h3, h4⟩ := run_append_E (P := P) (w := w) base t o.type e i z size bytes ht hi hz hsize hby hzs hsz v n xs hown y m news hy h63 hbytes hbase;unfold Oper.wp execOp;simp only [ho, resolve, invoke, builtin, Sem.run_bind, Sem.run_pure, Result.andThen_ok, List.map_toArray, List.map_cons, List.map_nil, hs, hx, hr];exact h v' w' h2 h3 h4
theorem gF {ops : Array Oper} {rest : List Oper} {o : Oper} {a : Act} {Q : Exit → Act → World → Prop} (hgd : o.guard = none) (s x : Operand) (t : TypeId)
 (ho : o.op = .call { callee := .builtin .append, args := #[s, x], argTypes := #[t, t] })
 (base : Nat) (e : TypeId) (i : TypeInfo) (z : Value) (size bytes : Nat) (ht : P.underlying t = some (.slice e)) (hi : P.info? e = some i) (hz : i.zero = some z)
 (hsize : i.size = size) (hby : i.bytes = bytes) (hzs : z.cells.size = size) (hsz : 0 < size)
 (v : Value) (n : Nat) (xs : List Value) (hs : a.eval s = v) (hown : aK base e size w v n xs) (y : Value) (m : Nat) (news : List Value) (hx : a.eval x = y) (hy : Source w size y m news)
 (h63 : n + m ≤ maxLen) (hbytes : (n + m) * bytes ≤ 140737488355328) (hbase : base ≤ w.heap.size)
 (h : ∀ v' w', aK base e size w' v' (n + m) (xs ++ news) → w.grownBy w' v.ownBlock → (∀ g, v'.ownBlock = some g → v.ownBlock = some g ∨ w.heap.size ≤ g) → wpList P ops Q rest (a.put o.dst v') w') : wpList P ops Q (o :: rest) a w :=
 wpList_plain hgd fun _ hK => wp_append_E s x t ho base e i z size bytes ht hi hz hsize hby hzs hsz v n xs hs hown y m news hx hy h63 hbytes hbase fun v' w' h2 h3 h4 => hK _ _ (h v' w' h2 h3 h4)
theorem bT {ops : Array Oper} {o : Oper} {a : Act} {K : Act → World → Prop} {Q : Exit → Act → World → Prop} {E : Prop} (hgd : o.guard = none) (s x : Operand) (t : TypeId)
 (ho : o.op = .call { callee := .builtin .append, args := #[s, x], argTypes := #[t, t] })
 (base : Nat) (e : TypeId) (i : TypeInfo) (z : Value) (size bytes : Nat) (ht : P.underlying t = some (.slice e)) (hi : P.info? e = some i) (hz : i.zero = some z)
 (hsize : i.size = size) (hby : i.bytes = bytes) (hzs : z.cells.size = size) (hsz : 0 < size)
 (v : Value) (n : Nat) (xs : List Value) (hs : a.eval s = v) (hown : aK base e size w v n xs) (y : Value) (m : Nat) (news : List Value) (hx : a.eval x = y) (hy : Source w size y m news)
 (h63 : n + m ≤ maxLen) (hbytes : (n + m) * bytes ≤ 140737488355328) (hbase : base ≤ w.heap.size)
 (h : ∀ v' w', aK base e size w' v' (n + m) (xs ++ news) → w.grownBy w' v.ownBlock → (∀ g, v'.ownBlock = some g → v.ownBlock = some g ∨ w.heap.size ≤ g) → K (a.put o.dst v') w') :
 if Region.wanted o (yielded ops a.tmps) = true then Oper.wp P o a w K Q else E := by
 have hw : Region.wanted o (yielded ops a.tmps) = true := by simp [Region.wanted, hgd]
 rw [if_pos hw];exact wp_append_E s x t ho base e i z size bytes ht hi hz hsize hby hzs hsz v n xs hs hown y m news hx hy h63 hbytes hbase h
end
end Go.Proofs.YtkhecelpafojdaaGreatDoor
namespace Go.Proofs.YtkhecelpafojdaaGreatDoor
open Go.RowKit
theorem info_St : (Tryz.prog.info? 99).map (fun i => (i.zero, i.size, i.bytes)) = some (some (.agg #[.int .i64 0, .int .i64 0, .int .i64 0, .int .i64 0, .int .i64 0]), 5, 40) := by kernel_rfl
theorem info_Pc : (Tryz.prog.info? 63).map (fun i => (i.zero, i.size, i.bytes)) = some (some (.agg #[.int .i64 0, .int .i64 0]), 2, 16) := by kernel_rfl
end Go.Proofs.YtkhecelpafojdaaGreatDoor
