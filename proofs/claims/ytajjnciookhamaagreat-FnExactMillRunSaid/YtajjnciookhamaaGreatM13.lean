/-
  Parts of the proof, of 3 texts: what Copy, Lists, OwnE show. Conditions: each theorem states its own.
-/
import Derived.Deep.RegionLaw
import Derived.ArgAppend
import Derived.Test.YtajjnciookhamaaGreatM09
import Derived.Test.YtajjnciookhamaaGreatM12
import Derived.Test.YtajjnciookhamaaGreatM08
import Derived.Test.YtajjnciookhamaaGreatM07
namespace Go.Proofs.YtajjnciookhamaaGreat
open Go.RowKit
/-- A slice of stuffs, of pieces, of the call's own. -/
def StNew (base : Nat) (xs : List St) (w : World) (e : Ending) (w' : World) : Prop := ∃ v, e = .returned v ∧ w'.ownsRow base 110 5 v xs.length (flatS xs) ∧ Below base w w'
def PcNew (base : Nat) (xs : List Pc) (w : World) (e : Ending) (w' : World) : Prop := ∃ v, e = .returned v ∧ w'.ownsRow base 71 2 v xs.length (flatP xs) ∧ Below base w w'
set_option maxRecDepth 10000 in
theorem cloneI_any (v : Value) (xs : List Int) (lo hi : Nat) (w : World) (h : IntsAt lo hi w v xs) (hl : xs.length ≤ 1000000) :
    Calls Tryz.prog 112 #[v] w (IntsNew w.heap.size xs w) := by
  have hs := h.source
  obtain ⟨i0, hi0, hz0, hi1, hi2⟩ := info_parts info_int
  have hq : ∀ (w : World) (a : Option Addr) (n c n' c' : Nat), (binOp .eql 26 (.slice a n c) (.slice none n' c')).run Tryz.prog w = .ok (.bool a.isNone) w := fun w a n c n' c' => Lib.run_eql_slice_nil w _ _ a n c n' c' Tryz.underlying26
  obtain ⟨ao, cap, rfl, hlc, hcap, hhi, hc⟩ := h
  cases ao with
  | none =>
    have hx : xs = [] := by
      cases xs with
      | nil => rfl
      | cons a l => obtain ⟨_, _, e, _⟩ := hc (by simp); cases e
    subst hx
    clear hs hc hi0 hz0 hi1 hi2
    go_enter Tryz.func112, Tryz.ntmps112
    go_wp2_with fail
    go_ret
    exact ⟨_, rfl, World.ownsRow_nil _ _ _ _, by go_grown⟩
  | some ad =>
    have HS := hide hs
    clear hs hc
    go_enter Tryz.func112, Tryz.ntmps112
    go_wp2_with (at_builtin; refine wpList_append_view rfl _ _ 26 rfl w.heap.size 3 i0 (.int .i64 0) 1 8 Tryz.underlying26 hi0 hz0 hi1 hi2 rfl (by decide) _ _ _ rfl (World.ownsRow_made w #[] 0 (Nat.le_refl _) (Nat.zero_le _) rfl) (.slice (some ad) xs.length cap) xs.length (flatI xs) rfl ?c0 ?c1 ?c2 ?c3 ?_)
    case c0 => exact HS.out.below ((Below.refl _ _).alloc (Nat.le_refl _) _) (Nat.le_refl _)
    case c1 => unfold maxLen; omega
    case c2 => omega
    case c3 => simp
    intro v2 w2 hown2 hgrow2 _
    have HB := hide (((Below.refl w.heap.size w).alloc (Nat.le_refl _) (.cells #[] 3)).trans (Below.grow hgrow2 (World.ownsRow_made (size := 1) w #[] 0 (Nat.le_refl _) (Nat.zero_le _) rfl) (Nat.le_refl _) (by simp)))
    have HO := hide (show w2.ownsRow w.heap.size 3 1 v2 xs.length (flatI xs) by simpa using hown2)
    clear hown2 hgrow2
    go_wp2_with fail
    go_ret
    exact ⟨v2, rfl, HO.out, HB.out⟩
set_option maxRecDepth 10000 in
theorem cloneS_any (v : Value) (xs : List St) (lo hi : Nat) (w : World) (h : StAt lo hi w v xs) (hl : xs.length ≤ 1000000) :
    Calls Tryz.prog 77 #[v] w (StNew w.heap.size xs w) := by
  have hs := h.source
  obtain ⟨i0, hi0, hz0, hi1, hi2⟩ := info_parts info_St
  have hq : ∀ (w : World) (a : Option Addr) (n c n' c' : Nat), (binOp .eql 34 (.slice a n c) (.slice none n' c')).run Tryz.prog w = .ok (.bool a.isNone) w := fun w a n c n' c' => Lib.run_eql_slice_nil w _ _ a n c n' c' Tryz.underlying34
  obtain ⟨ao, cap, rfl, hlc, hcap, hhi, hc⟩ := h
  cases ao with
  | none =>
    have hx : xs = [] := by
      cases xs with
      | nil => rfl
      | cons a l => obtain ⟨_, _, e, _⟩ := hc (by simp); cases e
    subst hx
    clear hs hc hi0 hz0 hi1 hi2
    go_enter Tryz.func77, Tryz.ntmps77
    go_wp2_with fail
    go_ret
    exact ⟨_, rfl, World.ownsRow_nil _ _ _ _, by go_grown⟩
  | some ad =>
    have HS := hide hs
    clear hs hc
    go_enter Tryz.func77, Tryz.ntmps77
    go_wp2_with (at_builtin; refine wpList_append_view rfl _ _ 34 rfl w.heap.size 110 i0 _ 5 40 Tryz.underlying34 hi0 hz0 hi1 hi2 rfl (by decide) _ _ _ rfl (World.ownsRow_made w #[] 0 (Nat.le_refl _) (Nat.zero_le _) rfl) (.slice (some ad) xs.length cap) xs.length (flatS xs) rfl ?c0 ?c1 ?c2 ?c3 ?_)
    case c0 => exact HS.out.below ((Below.refl _ _).alloc (Nat.le_refl _) _) (Nat.le_refl _)
    case c1 => unfold maxLen; omega
    case c2 => omega
    case c3 => simp
    intro v2 w2 hown2 hgrow2 _
    have HB := hide (((Below.refl w.heap.size w).alloc (Nat.le_refl _) (.cells #[] 110)).trans (Below.grow hgrow2 (World.ownsRow_made (size := 5) w #[] 0 (Nat.le_refl _) (Nat.zero_le _) rfl) (Nat.le_refl _) (by simp)))
    have HO := hide (show w2.ownsRow w.heap.size 110 5 v2 xs.length (flatS xs) by simpa using hown2)
    clear hown2 hgrow2
    go_wp2_with fail
    go_ret
    exact ⟨v2, rfl, HO.out, HB.out⟩
set_option maxRecDepth 10000 in
theorem cloneP_any (v : Value) (xs : List Pc) (lo hi : Nat) (w : World) (h : PcAt lo hi w v xs) (hl : xs.length ≤ 1000000) :
    Calls Tryz.prog 78 #[v] w (PcNew w.heap.size xs w) := by
  have hs := h.source
  obtain ⟨i0, hi0, hz0, hi1, hi2⟩ := info_parts info_Pc
  have hq : ∀ (w : World) (a : Option Addr) (n c n' c' : Nat), (binOp .eql 36 (.slice a n c) (.slice none n' c')).run Tryz.prog w = .ok (.bool a.isNone) w := fun w a n c n' c' => Lib.run_eql_slice_nil w _ _ a n c n' c' Tryz.underlying36
  obtain ⟨ao, cap, rfl, hlc, hcap, hhi, hc⟩ := h
  cases ao with
  | none =>
    have hx : xs = [] := by
      cases xs with
      | nil => rfl
      | cons a l => obtain ⟨_, _, e, _⟩ := hc (by simp); cases e
    subst hx
    clear hs hc hi0 hz0 hi1 hi2
    go_enter Tryz.func78, Tryz.ntmps78
    go_wp2_with fail
    go_ret
    exact ⟨_, rfl, World.ownsRow_nil _ _ _ _, by go_grown⟩
  | some ad =>
    have HS := hide hs
    clear hs hc
    go_enter Tryz.func78, Tryz.ntmps78
    go_wp2_with (at_builtin; refine wpList_append_view rfl _ _ 36 rfl w.heap.size 71 i0 _ 2 16 Tryz.underlying36 hi0 hz0 hi1 hi2 rfl (by decide) _ _ _ rfl (World.ownsRow_made w #[] 0 (Nat.le_refl _) (Nat.zero_le _) rfl) (.slice (some ad) xs.length cap) xs.length (flatP xs) rfl ?c0 ?c1 ?c2 ?c3 ?_)
    case c0 => exact HS.out.below ((Below.refl _ _).alloc (Nat.le_refl _) _) (Nat.le_refl _)
    case c1 => unfold maxLen; omega
    case c2 => omega
    case c3 => simp
    intro v2 w2 hown2 hgrow2 _
    have HB := hide (((Below.refl w.heap.size w).alloc (Nat.le_refl _) (.cells #[] 71)).trans (Below.grow hgrow2 (World.ownsRow_made (size := 2) w #[] 0 (Nat.le_refl _) (Nat.zero_le _) rfl) (Nat.le_refl _) (by simp)))
    have HO := hide (show w2.ownsRow w.heap.size 71 2 v2 xs.length (flatP xs) by simpa using hown2)
    clear hown2 hgrow2
    go_wp2_with fail
    go_ret
    exact ⟨v2, rfl, HO.out, HB.out⟩
end Go.Proofs.YtajjnciookhamaaGreat
namespace Go.Proofs.YtajjnciookhamaaGreat
open Go.RowKit
theorem st_at {lo hi : Nat} {w : World} {v : Value} {xs : List St} (h : StAt lo hi w v xs) {k : Nat} (hk : k < xs.length) :
    ∃ b o cap, v = .slice (some ⟨b, o, none⟩) xs.length cap ∧ lo ≤ b ∧ b < hi ∧
      (w.cell? ⟨b, o + k * 5, none⟩ = some (.int .i64 (xs.getD k st0).c) ∧ w.cell? ⟨b, o + k * 5 + 1, none⟩ = some (.int .i64 (xs.getD k st0).m) ∧ w.cell? ⟨b, o + k * 5 + 2, none⟩ = some (.int .i64 (xs.getD k st0).s) ∧ w.cell? ⟨b, o + k * 5 + 3, none⟩ = some (.int .i64 (xs.getD k st0).p) ∧ w.cell? ⟨b, o + k * 5 + 4, none⟩ = some (.int .i64 (xs.getD k st0).k)) := by
  obtain ⟨ao, cap, rfl, h1, h2, h3, h4⟩ := h
  obtain ⟨b, o, rfl, b1, b2, hc⟩ := h4 (by omega)
  have hg : xs.getD k st0 = xs[k] := by simp [hk]
  rw [hg]
  exact ⟨b, o, cap, rfl, b1, b2, (hc k hk).1⟩
theorem pc_at {lo hi : Nat} {w : World} {v : Value} {xs : List Pc} (h : PcAt lo hi w v xs) {k : Nat} (hk : k < xs.length) :
    ∃ b o cap, v = .slice (some ⟨b, o, none⟩) xs.length cap ∧ lo ≤ b ∧ b < hi ∧
      (w.cell? ⟨b, o + k * 2, none⟩ = some (.int .i64 (xs.getD k pc0).l) ∧ w.cell? ⟨b, o + k * 2 + 1, none⟩ = some (.int .i64 (xs.getD k pc0).s)) := by
  obtain ⟨ao, cap, rfl, h1, h2, h3, h4⟩ := h
  obtain ⟨b, o, rfl, b1, b2, hc⟩ := h4 (by omega)
  have hg : xs.getD k pc0 = xs[k] := by simp [hk]
  rw [hg]
  exact ⟨b, o, cap, rfl, b1, b2, (hc k hk).1⟩
/-- us are slices that read as xss, each apart from the block of v. -/
def Lists (lo : Nat) (w : World) (v : Value) (us : List Value) (xss : List (List Int)) : Prop :=
  us.length = xss.length ∧ ∀ i (_ : i < xss.length), ∃ u a z, us[i]? = some u ∧ lo ≤ a ∧ IntsAt a z w u xss[i] ∧ ∀ g, v.ownBlock = some g → g < a ∨ z ≤ g
theorem Lists.none (lo : Nat) (w : World) (v : Value) : Lists lo w v [] [] := ⟨rfl, fun _ h => absurd h (Nat.not_lt_zero _)⟩
theorem Lists.below {lo : Nat} {w w' : World} {v : Value} {us : List Value} {xss : List (List Int)} (h : Lists lo w v us xss) (k : Below w.heap.size w w') : Lists lo w' v us xss :=
  ⟨h.1, fun i hi => by
    obtain ⟨u, a, z, h1, h2, h3, h4⟩ := h.2 i hi
    exact ⟨u, a, z, h1, h2, h3.below k, h4⟩⟩
theorem Lists.mono {lo lo' : Nat} {w : World} {v : Value} {us : List Value} {xss : List (List Int)} (h : Lists lo w v us xss) (k : lo' ≤ lo) : Lists lo' w v us xss :=
  ⟨h.1, fun i hi => by
    obtain ⟨u, a, z, h1, h2, h3, h4⟩ := h.2 i hi
    exact ⟨u, a, z, h1, Nat.le_trans k h2, h3, h4⟩⟩
theorem Lists.off {lo lo' : Nat} {w : World} {v v' : Value} {us : List Value} {xss : List (List Int)} (h : Lists lo w v us xss) (k : lo' ≤ lo) (hv : ∀ g, v'.ownBlock = some g → g < lo) : Lists lo' w v' us xss :=
  ⟨h.1, fun i hi => by
    obtain ⟨u, a, z, h1, h2, h3, h4⟩ := h.2 i hi
    exact ⟨u, a, z, h1, Nat.le_trans k h2, h3, fun g hg => .inl (Nat.lt_of_lt_of_le (hv g hg) h2)⟩⟩
theorem Lists.grow {lo : Nat} {w w' : World} {v v' : Value} {us : List Value} {xss : List (List Int)} (h : Lists lo w v us xss) (hg : w.grownBy w' v.ownBlock) (hv : v'.ownBlock = v.ownBlock ∨ v'.ownBlock = some w.heap.size) : Lists lo w' v' us xss :=
  ⟨h.1, fun i hi => by
    obtain ⟨u, a, z, h1, h2, h3, h4⟩ := h.2 i hi
    refine ⟨u, a, z, h1, h2, h3.keep (fun k k1 k2 => hg.block k (Nat.lt_of_lt_of_le k2 h3.lt) fun e => ?_) hg.size, fun g e => ?_⟩
    · have := h4 k e.symm
      omega
    · rcases hv with hv | hv
      · exact h4 g (by rw [← hv]; exact e)
      · rw [hv] at e
        have := Option.some.inj e
        exact .inr (by have := h3.lt; omega)⟩
theorem Lists.append {lo : Nat} {w : World} {v : Value} {us us' : List Value} {xss xss' : List (List Int)} (h : Lists lo w v us xss) (h' : Lists lo w v us' xss') : Lists lo w v (us ++ us') (xss ++ xss') := by
  refine ⟨by rw [List.length_append, List.length_append, h.1, h'.1], fun i hi => ?_⟩
  rw [List.length_append] at hi
  rcases Nat.lt_or_ge i xss.length with hlt | hge
  · obtain ⟨u, a, z, h1, h2, h3, h4⟩ := h.2 i hlt
    refine ⟨u, a, z, by rw [List.getElem?_append_left (by rw [h.1]; exact hlt)]; exact h1, h2, ?_, h4⟩
    rw [List.getElem_append_left hlt]; exact h3
  · obtain ⟨u, a, z, h1, h2, h3, h4⟩ := h'.2 (i - xss.length) (by omega)
    refine ⟨u, a, z, by rw [List.getElem?_append_right (by rw [h.1]; exact hge), h.1]; exact h1, h2, ?_, h4⟩
    rw [List.getElem_append_right hge]; exact h3
theorem Lists.one {lo a z : Nat} {w : World} {v u : Value} {xs : List Int} (h : IntsAt a z w u xs) (hlo : lo ≤ a) (hv : ∀ g, v.ownBlock = some g → g < a ∨ z ≤ g) : Lists lo w v [u] [xs] :=
  ⟨rfl, fun i hi => by
    obtain rfl : i = 0 := by simpa using hi
    exact ⟨u, a, z, rfl, hlo, h, hv⟩⟩
/-- One cell of a row of the call's own is written. -/
theorem own_put {w : World} {base T sz n : Nat} {v : Value} {cs : List Value} (h : w.ownsRow base T sz v n cs) {g j : Nat} (hg : v.ownBlock = some g) (u : Value) :
    (w.setCell ⟨g, j, none⟩ u).ownsRow base T sz v n (cs.set j u) ∧ Other g (g + 1) w (w.setCell ⟨g, j, none⟩ u) := by
  refine ⟨?_, Other.setCell (p := ⟨g, j, none⟩) (Other.refl _ _ _) (Nat.le_refl _) (Nat.lt_succ_self _) u⟩
  rcases id h.2 with ⟨rfl, -⟩ | ⟨g', cap, cur, rfl, -⟩
  · cases hg
  · obtain rfl : g' = g := Option.some.inj hg
    exact (h.stored j u).1
theorem flatI_set (xs : List Int) (k : Nat) (x : Int) : flatI (xs.set k x) = (flatI xs).set k (.int .i64 x) := by simp [flatI, List.map_set]
theorem own_ne_row {w : World} {base T T' sz n G : Nat} {v : Value} {cs vs : List Value} (h : w.ownsRow base T sz v n cs) (hr : RowL w G T' vs) (hT : T ≠ T') : ∀ g, v.ownBlock = some g → g ≠ G := by
  intro g hg e
  subst e
  rcases h.2 with ⟨rfl, -⟩ | ⟨g', cap, cur, rfl, -, hb, -⟩
  · cases hg
  · obtain rfl : g' = g := Option.some.inj hg
    obtain ⟨c, hb', -, -⟩ := hr
    rw [hb] at hb'
    injection Option.some.inj hb' with _ e2 _
    exact hT e2
end Go.Proofs.YtajjnciookhamaaGreat
namespace Go.Proofs.YtajjnciookhamaaGreat
open Go.RowKit
/-- v is a row of the call's own, or an empty slice without room in a block of the call's own. -/
def OwnE (base T sz : Nat) (w : World) (v : Value) (n : Nat) (cs : List Value) : Prop :=
  w.ownsRow base T sz v n cs ∨ (∃ g, v = .slice (some ⟨g, 0, none⟩) 0 0 ∧ base ≤ g ∧ g < w.heap.size ∧ n = 0 ∧ cs = [])
theorem OwnE.own {base T sz n : Nat} {w : World} {v : Value} {cs : List Value} (h : w.ownsRow base T sz v n cs) : OwnE base T sz w v n cs := Or.inl h
theorem OwnE.below {base T sz B n : Nat} {w w' : World} {v : Value} {cs : List Value} (h : OwnE base T sz w v n cs) (k : Below B w w') (hB : w.heap.size ≤ B) : OwnE base T sz w' v n cs := by
  rcases h with h | ⟨g, h1, h2, h3, h4, h5⟩
  · exact .inl (ownsRow_below h k hB)
  · exact .inr ⟨g, h1, h2, Nat.lt_of_lt_of_le h3 k.size, h4, h5⟩
theorem OwnE.other {base T sz lo hi n : Nat} {w w' : World} {v : Value} {cs : List Value} (h : OwnE base T sz w v n cs) (k : Other lo hi w w') (hd : ∀ g, v.ownBlock = some g → g < lo ∨ hi ≤ g) : OwnE base T sz w' v n cs := by
  rcases h with h | ⟨g, h1, h2, h3, h4, h5⟩
  · exact .inl (ownsRow_other h k hd)
  · exact .inr ⟨g, h1, h2, Nat.lt_of_lt_of_le h3 k.size, h4, h5⟩
theorem OwnE.grown {base T sz n : Nat} {w w' : World} {row : Option Nat} {v : Value} {cs : List Value} (h : OwnE base T sz w v n cs) (k : w.grownBy w' row) (hd : ∀ g, v.ownBlock = some g → some g ≠ row) : OwnE base T sz w' v n cs := by
  rcases h with h | ⟨g, h1, h2, h3, h4, h5⟩
  · exact .inl (ownsRow_grown h k hd)
  · exact .inr ⟨g, h1, h2, Nat.lt_of_lt_of_le h3 k.size, h4, h5⟩
theorem OwnE.alloc {base T sz n : Nat} {w : World} {v : Value} {cs : List Value} (h : OwnE base T sz w v n cs) (o : Obj) : OwnE base T sz (w.alloc o) v n cs :=
  h.below ((Below.refl w.heap.size w).alloc (Nat.le_refl _) o) (Nat.le_refl _)
theorem OwnE.drew {base T sz n : Nat} {w : World} {v : Value} {cs : List Value} (h : OwnE base T sz w v n cs) : OwnE base T sz w.drew v n cs := h
theorem OwnE.mono {base base' T sz n : Nat} {w : World} {v : Value} {cs : List Value} (h : OwnE base T sz w v n cs) (hb : base' ≤ base) : OwnE base' T sz w v n cs := by
  rcases h with h | ⟨g, h1, h2, h3⟩
  · exact .inl (ownsRow_mono h hb)
  · exact .inr ⟨g, h1, by omega, h3⟩
theorem OwnE.lt {base T sz n : Nat} {w : World} {v : Value} {cs : List Value} (h : OwnE base T sz w v n cs) : ∀ g, v.ownBlock = some g → base ≤ g ∧ g < w.heap.size := by
  rcases h with h | ⟨g, rfl, h2, h3, -⟩
  · exact h.lt
  · intro k hk
    obtain rfl : g = k := Option.some.inj hk
    exact ⟨h2, h3⟩
theorem OwnE.form {base T sz n : Nat} {w : World} {v : Value} {cs : List Value} (h : OwnE base T sz w v n cs) : ∃ ao cap, v = .slice ao n cap ∧ n ≤ cap ∧ cap ≤ 9223372036854775807 := by
  rcases h with h | ⟨g, rfl, -, -, rfl, -⟩
  · exact own_slice h
  · exact ⟨_, _, rfl, Nat.le_refl _, by omega⟩
/-- Rows that were made one behind the other are apart. -/
theorem OwnE.apart {base B T sz T' sz' n n' : Nat} {w w' : World} {v v' : Value} {cs cs' : List Value} (h : OwnE base T sz w v n cs) (h' : OwnE B T' sz' w' v' n' cs') (hB : w.heap.size ≤ B) : Apart v v' := fun k h1 h2 => by
  have := (h.lt k h1).2
  have := (h'.lt k h2).1
  omega
/-- The slice read. -/
theorem ownE_I {w : World} {base n : Nat} {v : Value} {xs : List Int} (h : OwnE base 3 1 w v n (flatI xs)) (hn : n = xs.length) (hb : base ≤ w.heap.size) :
    ∃ a z, base ≤ a ∧ a ≤ z ∧ z ≤ w.heap.size ∧ IntsAt a z w v xs ∧ z ≤ a + 1 ∧ ∀ k, a ≤ k → k < z → v.ownBlock = some k := by
  rcases h with h | ⟨g, rfl, h2, h3, h4, h5⟩
  · exact ownI_one h hn hb
  · have : xs = [] := List.eq_nil_of_length_eq_zero (by omega)
    subst this
    exact ⟨base, base, Nat.le_refl _, Nat.le_refl _, hb, IntsAt.none _ _ _ _ _ (by omega) hb, by omega, fun k h1 h2 => by omega⟩
theorem ownE_P {w : World} {base n : Nat} {v : Value} {xs : List Pc} (h : OwnE base 71 2 w v n (flatP xs)) (hn : n = xs.length) (hb : base ≤ w.heap.size) :
    ∃ a z, base ≤ a ∧ a ≤ z ∧ z ≤ w.heap.size ∧ PcAt a z w v xs ∧ z ≤ a + 1 ∧ ∀ k, a ≤ k → k < z → v.ownBlock = some k := by
  rcases h with h | ⟨g, rfl, h2, h3, h4, h5⟩
  · exact ownPc_one h hn hb
  · have : xs = [] := List.eq_nil_of_length_eq_zero (by omega)
    subst this
    exact ⟨base, base, Nat.le_refl _, Nat.le_refl _, hb, PcAt.nil _ _ _ _ _ (by omega) hb, by omega, fun k h1 h2 => by omega⟩
theorem ownE_S {w : World} {base n : Nat} {v : Value} {xs : List St} (h : OwnE base 110 5 w v n (flatS xs)) (hn : n = xs.length) (hb : base ≤ w.heap.size) :
    ∃ a z, base ≤ a ∧ a ≤ z ∧ z ≤ w.heap.size ∧ StAt a z w v xs ∧ z ≤ a + 1 ∧ ∀ k, a ≤ k → k < z → v.ownBlock = some k := by
  rcases h with h | ⟨g, rfl, h2, h3, h4, h5⟩
  · exact ownSt_one h hn hb
  · have : xs = [] := List.eq_nil_of_length_eq_zero (by omega)
    subst this
    exact ⟨base, base, Nat.le_refl _, Nat.le_refl _, hb, StAt.nil _ _ _ _ _ (by omega) hb, by omega, fun k h1 h2 => by omega⟩
theorem ownE_ints {w : World} {base n : Nat} {v : Value} {xs : List Int} (h : OwnE base 3 1 w v n (flatI xs)) (hn : n = xs.length) (hb : base ≤ w.heap.size) : IntsAt base w.heap.size w v xs := by
  obtain ⟨a, z, h1, h2, h3, h4, -⟩ := ownE_I h hn hb
  exact h4.mono h1 h3 (Nat.le_refl _)
/-- A cell of the row is written. -/
theorem OwnE.put {base T sz n : Nat} {w : World} {v : Value} {cs : List Value} (h : OwnE base T sz w v n cs) (hn : 0 < n) {g j : Nat} (hg : v.ownBlock = some g) (u : Value) :
    OwnE base T sz (w.setCell ⟨g, j, none⟩ u) v n (cs.set j u) ∧ Other g (g + 1) w (w.setCell ⟨g, j, none⟩ u) := by
  rcases h with h | ⟨g', h1, h2, h3, h4, h5⟩
  · obtain ⟨a, b⟩ := own_put h hg (j := j) u
    exact ⟨.inl a, b⟩
  · omega
/-- An empty slice without room, in a block of the call's own. -/
theorem OwnE.lit {base T sz g : Nat} {w : World} (h1 : base ≤ g) (h2 : g < w.heap.size) : OwnE base T sz w (.slice (some ⟨g, 0, none⟩) 0 0) 0 [] := .inr ⟨g, rfl, h1, h2, rfl, rfl⟩
theorem Below.growE {base T sz n B : Nat} {w w' : World} {v : Value} {cs : List Value} (hg : w.grownBy w' v.ownBlock) (ho : OwnE base T sz w v n cs) (hb : B ≤ base) (hB : B ≤ w.heap.size) : Below B w w' :=
  (Below.refl _ _).grown hg hB fun k hk => Nat.le_trans hb (ho.lt k hk).1
section
variable {P : Program} {w : World}
theorem run_append_E (base : Nat) (t ty e : TypeId) (i : TypeInfo) (z : Value) (size bytes : Nat) (ht : P.underlying t = some (.slice e)) (hi : P.info? e = some i) (hz : i.zero = some z)
    (hsize : i.size = size) (hby : i.bytes = bytes) (hzs : z.cells.size = size) (hsz : 0 < size)
    (v : Value) (n : Nat) (xs : List Value) (hown : OwnE base e size w v n xs) (x : Value) (m : Nat) (news : List Value) (hx : Source w size x m news)
    (h63 : n + m ≤ maxLen) (hbytes : (n + m) * bytes ≤ 140737488355328) (hbase : base ≤ w.heap.size) :
    ∃ v' w', (Builtin.append_ #[t, t] ty #[v, x]).run P w = .ok v' w' ∧ OwnE base e size w' v' (n + m) (xs ++ news) ∧ w.grownBy w' v.ownBlock ∧
      (∀ g, v'.ownBlock = some g → v.ownBlock = some g ∨ w.heap.size ≤ g) := by
  rcases hown with hown | ⟨g, rfl, h2, h3, rfl, rfl⟩
  · obtain ⟨v', w', hr, a1, a2, a3⟩ := run_append_view (P := P) (w := w) base t ty e i z size bytes ht hi hz hsize hby hzs hsz v n xs hown x m news hx h63 hbytes hbase
    refine ⟨v', w', hr, .inl a1, a2, fun g hg => ?_⟩
    rcases a3 with a3 | a3
    · exact .inl (by rw [← a3]; exact hg)
    · rw [a3] at hg
      exact .inr (by have := Option.some.inj hg; omega)
  · obtain ⟨⟨ao, c, rfl, g1, g2⟩, hl, ho⟩ := hx
    rcases Nat.eq_zero_or_pos m with rfl | hm
    · obtain rfl : news = [] := List.eq_nil_of_length_eq_zero (by omega)
      refine ⟨_, w, ?_, .inr ⟨g, rfl, h2, h3, rfl, rfl⟩, ⟨rfl, rfl, rfl, Nat.le_refl _, fun _ _ _ => rfl⟩, fun g hg => .inl hg⟩
      cases ao <;> simp [Builtin.append_, run_underlying ht, sizeOf, typeInfo, hi, Builtin.lenOf, Builtin.firstCells, loadCells, loadCellsFrom, storeCells]
    · cases ao with
      | none => have := g1 rfl; omega
      | some ad =>
        obtain ⟨v', w', hr, a1, a2⟩ := run_append_arg_grows (P := P) w t ty e i z size bytes ht hi hz hsize hby hzs hsz ⟨g, 0, none⟩ 0 0 [] (by simp) (fun j u h => by simp at h) ad m c news hl (g2 ad rfl) (by omega) h63 hbytes
        exact ⟨v', w', hr, .inl (ownsRow_mono a1 hbase), ⟨a2.os, a2.tape, a2.output, a2.size, fun k hk _ => a2.block k hk (by simp)⟩, fun g hg => .inr (a1.lt g hg).1⟩
theorem wp_append_E {o : Oper} {a : Act} {K : Act → World → Prop} {Q : Exit → Act → World → Prop} (s x : Operand) (t : TypeId)
    (ho : o.op = .call { callee := .builtin .append, args := #[s, x], argTypes := #[t, t] })
    (base : Nat) (e : TypeId) (i : TypeInfo) (z : Value) (size bytes : Nat) (ht : P.underlying t = some (.slice e)) (hi : P.info? e = some i) (hz : i.zero = some z)
    (hsize : i.size = size) (hby : i.bytes = bytes) (hzs : z.cells.size = size) (hsz : 0 < size)
    (v : Value) (n : Nat) (xs : List Value) (hs : a.eval s = v) (hown : OwnE base e size w v n xs) (y : Value) (m : Nat) (news : List Value) (hx : a.eval x = y) (hy : Source w size y m news)
    (h63 : n + m ≤ maxLen) (hbytes : (n + m) * bytes ≤ 140737488355328) (hbase : base ≤ w.heap.size)
    (h : ∀ v' w', OwnE base e size w' v' (n + m) (xs ++ news) → w.grownBy w' v.ownBlock → (∀ g, v'.ownBlock = some g → v.ownBlock = some g ∨ w.heap.size ≤ g) → K (a.put o.dst v') w') : o.wp P a w K Q := by
  obtain ⟨v', w', hr, h2, h3, h4⟩ := run_append_E (P := P) (w := w) base t o.type e i z size bytes ht hi hz hsize hby hzs hsz v n xs hown y m news hy h63 hbytes hbase
  unfold Oper.wp execOp
  simp only [ho, resolve, invoke, builtin, Sem.run_bind, Sem.run_pure, Result.andThen_ok, List.map_toArray, List.map_cons, List.map_nil, hs, hx, hr]
  exact h v' w' h2 h3 h4
theorem wpList_append_E {ops : Array Oper} {rest : List Oper} {o : Oper} {a : Act} {Q : Exit → Act → World → Prop} (hgd : o.guard = none) (s x : Operand) (t : TypeId)
    (ho : o.op = .call { callee := .builtin .append, args := #[s, x], argTypes := #[t, t] })
    (base : Nat) (e : TypeId) (i : TypeInfo) (z : Value) (size bytes : Nat) (ht : P.underlying t = some (.slice e)) (hi : P.info? e = some i) (hz : i.zero = some z)
    (hsize : i.size = size) (hby : i.bytes = bytes) (hzs : z.cells.size = size) (hsz : 0 < size)
    (v : Value) (n : Nat) (xs : List Value) (hs : a.eval s = v) (hown : OwnE base e size w v n xs) (y : Value) (m : Nat) (news : List Value) (hx : a.eval x = y) (hy : Source w size y m news)
    (h63 : n + m ≤ maxLen) (hbytes : (n + m) * bytes ≤ 140737488355328) (hbase : base ≤ w.heap.size)
    (h : ∀ v' w', OwnE base e size w' v' (n + m) (xs ++ news) → w.grownBy w' v.ownBlock → (∀ g, v'.ownBlock = some g → v.ownBlock = some g ∨ w.heap.size ≤ g) → wpList P ops Q rest (a.put o.dst v') w') : wpList P ops Q (o :: rest) a w :=
  wpList_plain hgd fun _ hK => wp_append_E s x t ho base e i z size bytes ht hi hz hsize hby hzs hsz v n xs hs hown y m news hx hy h63 hbytes hbase fun v' w' h2 h3 h4 => hK _ _ (h v' w' h2 h3 h4)
theorem step_append_E {ops : Array Oper} {o : Oper} {a : Act} {K : Act → World → Prop} {Q : Exit → Act → World → Prop} {E : Prop} (hgd : o.guard = none) (s x : Operand) (t : TypeId)
    (ho : o.op = .call { callee := .builtin .append, args := #[s, x], argTypes := #[t, t] })
    (base : Nat) (e : TypeId) (i : TypeInfo) (z : Value) (size bytes : Nat) (ht : P.underlying t = some (.slice e)) (hi : P.info? e = some i) (hz : i.zero = some z)
    (hsize : i.size = size) (hby : i.bytes = bytes) (hzs : z.cells.size = size) (hsz : 0 < size)
    (v : Value) (n : Nat) (xs : List Value) (hs : a.eval s = v) (hown : OwnE base e size w v n xs) (y : Value) (m : Nat) (news : List Value) (hx : a.eval x = y) (hy : Source w size y m news)
    (h63 : n + m ≤ maxLen) (hbytes : (n + m) * bytes ≤ 140737488355328) (hbase : base ≤ w.heap.size)
    (h : ∀ v' w', OwnE base e size w' v' (n + m) (xs ++ news) → w.grownBy w' v.ownBlock → (∀ g, v'.ownBlock = some g → v.ownBlock = some g ∨ w.heap.size ≤ g) → K (a.put o.dst v') w') :
    if Region.wanted o (yielded ops a.tmps) = true then Oper.wp P o a w K Q else E := by
  have hw : Region.wanted o (yielded ops a.tmps) = true := by simp [Region.wanted, hgd]
  rw [if_pos hw]
  exact wp_append_E s x t ho base e i z size bytes ht hi hz hsize hby hzs hsz v n xs hs hown y m news hx hy h63 hbytes hbase h
end
end Go.Proofs.YtajjnciookhamaaGreat
